/- Plain: programs out of valid programs hold valid instructions. law04's due and told. ref02's Decimal, TextOf, Text, at small numbers. ref02's Text, at small numbers. law04's awake: the examples of the chapter. law04: BuildThens. law04: BuildMakes. law04: BuildMakes, where the string is no tree; the law. -/
import Derived.Test.YtaiomcjopgnfpaaM8
namespace Go.Proofs.Ytaiomcjopgnfpaa
open Go.RowKit

/-- Instructions that are right at a place of a program of some length. -/
def RA (k n : Nat) (l : List Ins) : Prop := ∀ (i : Nat) x, l[i]? = some x → rightB x ((k + i : Nat) : Int) n = true
theorem RA.nil (k n : Nat) : RA k n [] := fun i x h => by simp at h
theorem RA.append {k n : Nat} {a b : List Ins} (ha : RA k n a) (hb : RA (k + a.length) n b) : RA k n (a ++ b) := by
  intro i x hx
  by_cases h : i < a.length
  · rw [List.getElem?_append_left h] at hx; exact ha i x hx
  · rw [List.getElem?_append_right (by omega)] at hx
    have := hb (i - a.length) x hx
    rwa [show k + a.length + (i - a.length) = k + i by omega] at this
theorem RA.cons {k n : Nat} {x : Ins} {l : List Ins} (hx : rightB x k n = true) (hl : RA (k + 1) n l) : RA k n (x :: l) := by
  intro i y hy
  cases i with
  | zero => simp only [List.getElem?_cons_zero, Option.some.injEq] at hy; subst hy; exact hx
  | succ i =>
    rw [List.getElem?_cons_succ] at hy
    have := hl i y hy
    rwa [show k + 1 + i = k + (i + 1) by omega] at this
theorem RA.of {k n : Nat} {l : List Ins} (h : rightAll l = true) (hn : k + l.length ≤ n) : RA k n l := fun _ _ hx => rightAll_at h hx hn
theorem RA.all {l : List Ins} (h : RA 0 l.length l) : rightAll l = true := rightAll_iff.2 fun i x hx => by have := h i x hx; rwa [Nat.zero_add] at this
theorem ra_move (a b k n : Nat) (ha : a < 32) (hb : b < 32) : rightB (moveI a b) k n = true := by
  unfold rightB moveI regB; simp; omega
theorem ra_cons (a b c k n : Nat) (ha : a < 32) (hb : b < 32) (hc : c < 32) : rightB (consI a b c) k n = true := by
  unfold rightB consI regB; simp; omega
theorem ra_jump (a : Nat) (b : Int) (k n : Nat) (ha : a < 32) (h1 : -(k : Int) ≤ b) (h2 : b ≤ (n : Int) - k) : rightB (jumpI a b) k n = true := by
  unfold rightB jumpI regB; simp; omega
theorem ra_set (a : Nat) (t : ByteArray) (k n : Nat) (ha : a < 32) (ht : isTree t = true) : rightB (setI a t) k n = true := by
  unfold rightB setI regB; simp [ht]; omega
theorem ra_cleanK (m k n : Nat) (hm : m < 32) : RA k n (cleanK m) := by
  intro i x hx
  have h1 := List.mem_of_getElem? hx
  simp only [cleanK, List.mem_map, List.mem_range] at h1
  obtain ⟨j, hj, rfl⟩ := h1
  exact ra_set _ _ _ _ (by omega) (by decide)
theorem mostN_lt32 {l : List Ins} (hv : rightAll l = true) : mostN l < 32 := by have := mostN_lt hv l.length (Nat.le_refl _); rwa [mostN_all] at this
theorem ra_cleanP {l : List Ins} (hv : rightAll l = true) {k n : Nat} (hn : k + (cleanP l).length ≤ n) : RA k n (cleanP l) := by
  rw [cleanP_length] at hn
  unfold cleanP cleanH
  exact (ra_cleanK _ _ _ (mostN_lt32 hv)).append (RA.of hv (by rw [cleanK_length]; omega))
theorem ra_cleans : ∀ (ls : List (List Ins)) (k n : Nat), allV ls = true → k + ((ls.map cleanP).flatten).length ≤ n → RA k n (ls.map cleanP).flatten
  | [], k, n, _, _ => RA.nil _ _
  | l :: ls, k, n, hv, hn => by
    have hv' : validB l = true ∧ allV ls = true := by unfold allV at hv ⊢; simpa using hv
    rw [List.map_cons, List.flatten_cons] at hn ⊢
    rw [List.length_append] at hn
    exact (ra_cleanP (validB_all hv'.1) (by omega)).append (ra_cleans ls _ n hv'.2 (by omega))
theorem thenL_right {ls : List (List Ins)} (hv : allV ls = true) : rightAll (thenL ls) = true := by
  cases ls with
  | nil => rfl
  | cons l ls =>
    have hv' : validB l = true ∧ allV ls = true := by unfold allV at hv ⊢; simpa using hv
    refine RA.all ?_
    unfold thenL
    exact (RA.of (validB_all hv'.1) (by simp)).append (ra_cleans ls _ _ hv'.2 (by simp))
theorem allV_two {p q : List Ins} (h : allV [p, q] = true) : validB p = true ∧ validB q = true := by unfold allV at h; simpa using h
theorem allV_three {c p q : List Ins} (h : allV [c, p, q] = true) : validB c = true ∧ validB p = true ∧ validB q = true := by unfold allV at h; simpa using h
theorem mostR_two (p q : List Ins) : mostR [p, q] = max (regN p) (regN q) := by
  have : 1 ≤ regN q := by unfold regN; omega
  simp [mostR]; omega
theorem mostR_three (c p q : List Ins) : mostR [c, p, q] = max (regN c) (max (regN p) (regN q)) := by
  have : 1 ≤ regN q := by unfold regN; omega
  simp [mostR]; omega
theorem pairL_right {p q : List Ins} (hv : allV [p, q] = true) (hm : mostR [p, q] ≤ 28) : rightAll (pairL p q) = true := by
  obtain ⟨h1, h2⟩ := allV_two hv
  rw [mostR_two] at hm
  have hl : (pairL p q).length = p.length + (cleanP q).length + 4 := by unfold pairL; simp; omega
  refine RA.all ?_
  rw [hl]
  unfold pairL
  obtain ⟨n, hn⟩ : ∃ n, max (regN p) (regN q) = n := ⟨_, rfl⟩
  simp only [hn]
  rw [hn] at hm
  refine RA.append (RA.append (RA.append (RA.cons (ra_move _ _ _ _ (by omega) (by omega)) (RA.of (validB_all h1) (by omega))) (RA.cons (ra_move _ _ _ _ (by omega) (by omega)) (RA.cons (ra_move _ _ _ _ (by omega) (by omega)) (RA.nil _ _)))) (ra_cleanP (validB_all h2) ?_)) (RA.cons (ra_cons _ _ _ _ _ (by omega) (by omega) (by omega)) (RA.nil _ _))
  simp; omega
theorem ifL_right {c p q : List Ins} (hv : allV [c, p, q] = true) (hm : mostR [c, p, q] ≤ 28) : rightAll (ifL c p q) = true := by
  obtain ⟨h0, h1, h2⟩ := allV_three hv
  rw [mostR_three] at hm
  have hl : (ifL c p q).length = c.length + (cleanP p).length + (cleanP q).length + 6 := by unfold ifL; simp; omega
  refine RA.all ?_
  rw [hl]
  unfold ifL
  obtain ⟨n, hn⟩ : ∃ n, max (regN c) (max (regN p) (regN q)) = n := ⟨_, rfl⟩
  simp only [hn]
  rw [hn] at hm
  refine RA.append (RA.append (RA.append (RA.append (RA.cons (ra_move _ _ _ _ (by omega) (by omega)) (RA.of (validB_all h0) (by omega))) (RA.cons (ra_jump _ _ _ _ (by omega) ?_ ?_) (RA.cons (ra_move _ _ _ _ (by omega) (by omega)) (RA.nil _ _)))) (ra_cleanP (validB_all h2) ?_)) (RA.cons (ra_set _ _ _ _ (by omega) (by decide)) (RA.cons (ra_jump _ _ _ _ (by omega) ?_ ?_) (RA.cons (ra_move _ _ _ _ (by omega) (by omega)) (RA.nil _ _))))) (ra_cleanP (validB_all h1) ?_)
  all_goals (simp; omega)
theorem whileL_right {c p : List Ins} (hv : allV [c, p] = true) (hm : mostR [c, p] ≤ 28) : rightAll (whileL c p) = true := by
  obtain ⟨h0, h1⟩ := allV_two hv
  rw [mostR_two] at hm
  have hl0 : (whileH c p).length = (cleanP c).length + (cleanP p).length + 7 := by unfold whileH; simp; omega
  have hl : (whileL c p).length = (cleanP c).length + (cleanP p).length + 8 := by unfold whileL; simp [hl0]
  refine RA.all ?_
  rw [hl]
  unfold whileL
  rw [hl0]
  obtain ⟨n, hn⟩ : ∃ n, max (regN c) (regN p) = n := ⟨_, rfl⟩
  rw [hn] at hm ⊢
  refine RA.append ?_ (RA.cons (ra_jump _ _ _ _ (by omega) ?_ ?_) (RA.nil _ _))
  · unfold whileH
    simp only [hn]
    refine RA.append (RA.append (RA.append (RA.cons (ra_move _ _ _ _ (by omega) (by omega)) (ra_cleanP (validB_all h0) (by omega))) (RA.cons (ra_jump _ _ _ _ (by omega) ?_ ?_) (RA.cons (ra_move _ _ _ _ (by omega) (by omega)) (RA.cons (ra_set _ _ _ _ (by omega) (by decide)) (RA.cons (ra_jump _ _ _ _ (by omega) ?_ ?_) (RA.cons (ra_move _ _ _ _ (by omega) (by omega)) (RA.nil _ _))))))) (ra_cleanP (validB_all h1) ?_)) (RA.cons (ra_set _ _ _ _ (by omega) (by decide)) (RA.nil _ _))
    all_goals (simp; omega)
  · rw [hl0]; omega
  · rw [hl0]; omega

/-- The due error, as it is said with the limits alone. -/
def dueF (ls : List (List Ins)) (m : List Ins) : Int := if allV ls = false then 1 else if 28 < mostR ls then 8 else if fitsP m = true then 0 else 3
theorem dueF_eq {ls : List (List Ins)} {m : List Ins} (h : allV ls = true → mostR ls ≤ 28 → rightAll m = true) : dueF ls m = dueN ls m := by
  unfold dueF dueN
  by_cases h1 : allV ls = false
  · rw [if_pos h1, if_pos h1]
  · rw [if_neg h1, if_neg h1]
    by_cases h2 : 28 < mostR ls
    · rw [if_pos h2, if_pos h2]
    · rw [if_neg h2, if_neg h2, validB_fits (h (by simpa using h1) (by omega))]
theorem dueF_then (ls : List (List Ins)) : dueF ls (thenL ls) = dueN ls (thenL ls) := dueF_eq fun h _ => thenL_right h
theorem dueF_pair (p q : List Ins) : dueF [p, q] (pairL p q) = dueN [p, q] (pairL p q) := dueF_eq pairL_right
theorem dueF_if (c p q : List Ins) : dueF [c, p, q] (ifL c p q) = dueN [c, p, q] (ifL c p q) := dueF_eq ifL_right
theorem dueF_while (c p : List Ins) : dueF [c, p] (whileL c p) = dueN [c, p] (whileL c p) := dueF_eq whileL_right

end Go.Proofs.Ytaiomcjopgnfpaa

namespace Go.Proofs.Ytaiomcjopgnfpaa
open Go.RowKit

theorem mostR_ge {ls : List (List Ins)} {k : Nat} {l : List Ins} (hl : ls[k]? = some l) : regN l ≤ mostR ls := by
  unfold mostR
  have hm : regN l ∈ ls.map regN := List.mem_map.2 ⟨l, List.mem_of_getElem? hl, rfl⟩
  revert hm
  generalize ls.map regN = m
  intro hm
  induction m with
  | nil => cases hm
  | cons a m ih =>
    simp only [List.foldr_cons]
    rcases List.mem_cons.1 hm with h | h
    · omega
    · have := ih h; omega

set_option maxHeartbeats 4000000 in
theorem due_any (v mv : Value) (ls : List (List Ins)) (ml : List Ins) (w : World) (hl : ProgsRow w w.heap.size v ls) (hm : InsRow w w.heap.size mv ml) :
    Calls Try.prog 25 #[v, mv] w fun e w' => e = .returned (.int .i64 (dueF ls ml)) ∧ Below w.heap.size w w' := by
  obtain ⟨ao, cap, rfl⟩ := hl.len
  have hn5 := hl.1
  obtain ⟨n, hn'⟩ : ∃ n, ls.length = n := ⟨_, rfl⟩
  rw [hn'] at hl hn5 ⊢
  have HN := Lib.hid hn'; clear hn'
  have HL := Lib.hid hl; clear hl
  have HM := Lib.hid hm; clear hm
  obtain ⟨R, hR⟩ : ∃ R, dueF ls ml = R := ⟨_, rfl⟩
  rw [hR]
  have HR := Lib.hid hR; clear hR
  go_enter Try.func25, Try.ntmps25
  go_wp2
  go_loopg [5] n (fun gg i wr => ∃ k : Nat, k ≤ n ∧ gg = n - k ∧ i = .int .i64 k ∧ Aside (allV (ls.take k) = true) ∧ Below w.heap.size w wr)
  case atStart => exact ⟨0, by omega, rfl, rfl, rfl, Below.refl _ _⟩
  case round =>
    obtain ⟨k, hk, hg, rfl, hva, hbw⟩ := hrel
    have HG := Lib.hid hg; clear hg
    have hva := Lib.hid hva.out
    by_cases hlt : k < n
    · obtain ⟨l, hx⟩ : ∃ s, ls[k]? = some s := ⟨_, List.getElem?_eq_getElem (by rw [HN.out]; exact hlt)⟩
      have hl2 := HL.out.step hbw
      obtain ⟨g, off, u, rfl, hg, c0, hu⟩ := hl2.get hx
      have hi0 : (0 : Int) ≤ (k : Int) := Int.natCast_nonneg _
      have hi1 : (k : Int) < (n : Int) := by omega
      have HX := Lib.hid hx
      clear hx hl2
      cases hv : validB l with
      | true =>
        have kr := cvalid_at true hv hu
        have HVV := Lib.hid hv
        clear hv hu
        go_wp2_with fail
        refine kr.mono ?_
        rintro e w1 ⟨rfl, hb1⟩
        have hb2 := hbw.trans (hb1.mono hbw.size)
        clear hb1 kr hbw c0
        go_wp2
        go_roundg (n - (k + 1))
        case measure => rw [HG.out]; omega
        case rel => exact ⟨k + 1, by omega, rfl, by go_num, by show _ = _; rw [allV_succ ls k HX.out, hva.out, HVV.out]; rfl, hb2⟩
      | false =>
        have kr := cvalid_at false hv hu
        have hf : Hid (R = 1) := Lib.hid (by rw [← HR.out]; unfold dueF; rw [if_pos (allV_false HX.out hv)])
        clear hv hu
        go_wp2_with fail
        refine kr.mono ?_
        rintro e w1 ⟨rfl, hb1⟩
        have hb2 := hbw.trans (hb1.mono hbw.size)
        clear hb1 kr hbw c0
        go_wp2
        refine bodyPost_ret (v := .int .i64 1) (by simp [results, Try.results25, go_sem]) rfl ?_
        exact ⟨by rw [hf.out], hb2⟩
    · have hkn : k = n := by omega
      subst hkn
      have hav : Hid (allV ls = true) := Lib.hid (allV_of_take hva.out (by rw [HN.out]; omega))
      clear hva hlt hk
      have HBW := Lib.hid hbw
      clear hbw
      go_wp2
      go_loopg [6] k (fun gg i wr' => ∃ j : Nat, j ≤ k ∧ gg = k - j ∧ i = .int .i64 j ∧ Aside (mostR (ls.take j) ≤ 28) ∧ Below w.heap.size w wr')
      case atStart => exact ⟨0, by omega, rfl, rfl, by show (1 : Nat) ≤ 28; decide, HBW.out⟩
      case round =>
        clear HBW
        obtain ⟨j, hk, hg, rfl, hvb, hbw⟩ := hrel
        have HG := Lib.hid hg; clear hg
        have hvb := Lib.hid hvb.out
        by_cases hlt : j < k
        · obtain ⟨l, hx⟩ : ∃ s, ls[j]? = some s := ⟨_, List.getElem?_eq_getElem (by rw [HN.out]; exact hlt)⟩
          have hl2 := HL.out.step hbw
          obtain ⟨g, off, u, rfl, hg, c0, hu⟩ := hl2.get hx
          have hi0 : (0 : Int) ≤ (j : Int) := Int.natCast_nonneg _
          have hi1 : (j : Int) < (k : Int) := by omega
          have HX := Lib.hid hx
          have kr := refRegs_ok u l _ hu (allV_get hav.out hx)
          have hge := mostR_ge hx
          obtain ⟨r, hr⟩ : ∃ r, regN l = r := ⟨_, rfl⟩
          rw [hr] at kr hge
          have HRR := Lib.hid hr
          have HGE := Lib.hid hge
          clear hx hl2 hr hge hu
          by_cases hbig : 28 < r
          · have hf : Hid (R = 8) := Lib.hid (by rw [← HR.out]; unfold dueF; rw [if_neg (by rw [hav.out]; simp), if_pos (by have := HGE.out; omega)])
            have hbI : (28 : Int) < (r : Int) := by omega
            go_wp2_with fail
            refine kr.mono ?_
            rintro e w1 ⟨rfl, hb1⟩
            have hb2 := hbw.trans (hb1.mono hbw.size)
            clear hb1 kr hbw c0
            go_wp2
            refine bodyPost_ret (v := .int .i64 8) (by simp [results, Try.results25, go_sem]) rfl ?_
            exact ⟨by rw [hf.out], hb2⟩
          · have hbI : ¬ (28 : Int) < (r : Int) := by omega
            go_wp2_with fail
            refine kr.mono ?_
            rintro e w1 ⟨rfl, hb1⟩
            have hb2 := hbw.trans (hb1.mono hbw.size)
            clear hb1 kr hbw c0
            go_wp2
            go_roundg (k - (j + 1))
            case measure => rw [HG.out]; omega
            case rel => exact ⟨j + 1, by omega, rfl, by go_num, by show _ ≤ _; rw [mostR_succ ls j HX.out, HRR.out]; have := hvb.out; omega, hb2⟩
        · have hkn : j = k := by omega
          subst hkn
          have hqm : Hid (mostR ls ≤ 28) := Lib.hid (by have h2 := hvb.out; rwa [List.take_of_length_le (by rw [HN.out]; omega)] at h2)
          clear hvb hlt hk
          have kf := fits4_ok mv ml _ ((HM.out.below hbw).mono hbw.size)
          cases hf : fitsP ml with
          | true =>
            have hf' : Hid (R = 0) := Lib.hid (by rw [← HR.out]; unfold dueF; rw [if_neg (by rw [hav.out]; simp), if_neg (by have := hqm.out; omega), if_pos hf])
            rw [hf] at kf
            clear hf
            go_wp2_with fail
            refine kf.mono ?_
            rintro e w1 ⟨rfl, hb1⟩
            have hb2 := hbw.trans (hb1.mono hbw.size)
            clear hb1 kf hbw
            go_wp2
            refine bodyPost_ret (v := .int .i64 0) (by simp [results, Try.results25, go_sem]) rfl ?_
            exact ⟨by rw [hf'.out], hb2⟩
          | false =>
            have hf' : Hid (R = 3) := Lib.hid (by rw [← HR.out]; unfold dueF; rw [if_neg (by rw [hav.out]; simp), if_neg (by have := hqm.out; omega), if_neg (by rw [hf]; simp)])
            rw [hf] at kf
            clear hf
            go_wp2_with fail
            refine kf.mono ?_
            rintro e w1 ⟨rfl, hb1⟩
            have hb2 := hbw.trans (hb1.mono hbw.size)
            clear hb1 kf hbw
            go_wp2
            refine bodyPost_ret (v := .int .i64 3) (by simp [results, Try.results25, go_sem]) rfl ?_
            exact ⟨by rw [hf'.out], hb2⟩

theorem told_bad (d : Int) (hd : d ≠ 0) (mv : Value) (w : World) :
    Calls Try.prog 24 #[.slice none 0 0, .int .i64 d, .int .i64 d, mv] w fun e w' => e = .returned (.bool true) ∧ Below w.heap.size w w' := by
  go_enter Try.func24, Try.ntmps24
  go_wp2
  go_ret
  exact ⟨rfl, Below.refl _ _⟩
theorem told_ok (v mv : Value) (ml : List Ins) (w : World) (h1 : InsRow w w.heap.size v ml) (h2 : InsRow w w.heap.size mv ml) :
    Calls Try.prog 24 #[v, .int .i64 0, .int .i64 0, mv] w fun e w' => e = .returned (.bool true) ∧ Below w.heap.size w w' := by
  have ks := same_self h1 h2
  go_enter Try.func24, Try.ntmps24
  go_wp2_with fail
  refine ks.mono ?_
  rintro e w1 ⟨rfl, hb1⟩
  go_wp2
  go_ret
  exact ⟨rfl, hb1⟩

end Go.Proofs.Ytaiomcjopgnfpaa

namespace Go.Proofs.Ytaiomcjopgnfpaa
open Go.RowKit

theorem app_str {P : Program} {tS tE tu : Nat} (E : ElemT P tS tE (.int .u8 0) 1 1) (hu : P.underlying tu = some .string) {ops : Array Oper} {rest : List Oper} {o : Oper} {a : Act} {Q : Exit → Act → World → Prop}
    (hgd : o.guard = none) (sl x : Operand) (ho : o.op = .call { callee := .builtin .append, args := #[sl, x], argTypes := #[tS, tu] }) {w : World} {base : Nat} {v : Value} {n : Nat} {xs : List Value}
    (hs : a.eval sl = v) (hown : w.ownsRow base tE 1 v n xs) (s : ByteArray) (hx : a.eval x = .string s) (hby : n + s.size ≤ 140737488355328) (hbase : base ≤ w.heap.size) {B : Nat} {w0 : World} (hb : Below B w0 w) (hB : B ≤ base)
    (h : ∀ v' w', w'.ownsRow base tE 1 v' (n + s.size) (xs ++ Lib.strCells s) → Below B w0 w' → wpList P ops Q rest (a.put o.dst v') w') :
    wpList P ops Q (o :: rest) a w := by
  obtain ⟨i, hi, hz, hsize, hbytes⟩ := info_parts E.hi
  have hlt := hown.lt
  obtain ⟨v', w', hr, h2, h3, _⟩ := Lib.run_append_own_string (P := P) w base tS tu o.type tE i E.ht hu hi hz hsize hbytes v n xs hown s (by unfold maxLen; omega) hby hbase
  refine wpList_plain hgd fun K hK' => ?_
  unfold Oper.wp execOp
  simp only [ho, resolve, invoke, builtin, Sem.run_bind, Sem.run_pure, Result.andThen_ok, List.map_toArray, List.map_cons, List.map_nil, hs, hx, hr]
  exact hK' _ _ (h v' w' h2 (hb.grown h3 (by omega) (fun k hk => by have := (hlt k hk).1; omega)))

/-- Strings, with a semicolon and a blank between. -/
def jn : List (List UInt8) → List UInt8
  | [] => []
  | t :: ts => t ++ (ts.map fun t => [59, 32] ++ t).flatten
theorem jn_succ (T : List (List UInt8)) (k : Nat) {t : List UInt8} (ht : T[k]? = some t) : jn (T.take (k + 1)) = jn (T.take k) ++ (if k = 0 then [] else [59, 32]) ++ t := by
  rw [take_snoc' _ _ _ ht]
  cases k with
  | zero => simp [jn]
  | succ k =>
    cases T with
    | nil => simp at ht
    | cons a T => simp [jn]
theorem jn_mono (T : List (List UInt8)) (k : Nat) : (jn (T.take k)).length ≤ (jn T).length := by
  cases T with
  | nil => simp
  | cons a T =>
    cases k with
    | zero => simp [jn]
    | succ k =>
      have h : ((T.map fun t => [59, 32] ++ t).flatten : List UInt8) = ((T.take k).map fun t => [59, 32] ++ t).flatten ++ ((T.drop k).map fun t => [59, 32] ++ t).flatten := by
        rw [← List.flatten_append, ← List.map_append, List.take_append_drop]
      simp only [jn, List.take_succ_cons, List.length_append]
      rw [h, List.length_append]; omega

theorem dec0_any (w : World) : Calls Try.prog 133 #[.int .i64 0] w fun e w' => e = .returned (.string ⟨#[48]⟩) ∧ Below w.heap.size w w' := by
  have hb0 := (Below.refl w.heap.size w).alloc (Nat.le_refl _) (.cells #[.int .u8 48] 5)
  have hown : (w.alloc (.cells #[.int .u8 48] 5)).ownsRow w.heap.size 5 1 (.slice (some ⟨w.heap.size, 0, none⟩) 1 1) 1 (Lib.byteCells [48]) := World.ownsRow_lit w #[.int .u8 48] 1 (Nat.le_refl _) (by decide) rfl
  have hcv := own_bytes (P := Try.prog) [48] hown 126 Try.underlying126 Try.underlying5 9 Try.underlying9
  go_enter Try.func133, Try.ntmps133
  go_wp2
  go_ret
  exact ⟨rfl, hb0⟩
theorem dec1_any (w : World) : Calls Try.prog 133 #[.int .i64 1] w fun e w' => e = .returned (.string ⟨#[49]⟩) ∧ Below w.heap.size w w' := by
  have hb0 := (Below.refl w.heap.size w).alloc (Nat.le_refl _) (.cells #[.int .u8 49] 5)
  have hown : (w.alloc (.cells #[.int .u8 49] 5)).ownsRow w.heap.size 5 1 (.slice (some ⟨w.heap.size, 0, none⟩) 1 1) 1 (Lib.byteCells [49]) := World.ownsRow_lit w #[.int .u8 49] 1 (Nat.le_refl _) (by decide) rfl
  have hcv := own_bytes (P := Try.prog) [49] hown 126 Try.underlying126 Try.underlying5 9 Try.underlying9
  go_enter Try.func133, Try.ntmps133
  go_wp2
  go_ret
  exact ⟨rfl, hb0⟩
theorem dec2_any (w : World) : Calls Try.prog 133 #[.int .i64 2] w fun e w' => e = .returned (.string ⟨#[50]⟩) ∧ Below w.heap.size w w' := by
  have hb0 := (Below.refl w.heap.size w).alloc (Nat.le_refl _) (.cells #[.int .u8 50] 5)
  have hown : (w.alloc (.cells #[.int .u8 50] 5)).ownsRow w.heap.size 5 1 (.slice (some ⟨w.heap.size, 0, none⟩) 1 1) 1 (Lib.byteCells [50]) := World.ownsRow_lit w #[.int .u8 50] 1 (Nat.le_refl _) (by decide) rfl
  have hcv := own_bytes (P := Try.prog) [50] hown 126 Try.underlying126 Try.underlying5 9 Try.underlying9
  go_enter Try.func133, Try.ntmps133
  go_wp2
  go_ret
  exact ⟨rfl, hb0⟩

def nameL : List ByteArray := [⟨#[115, 101, 116]⟩, ⟨#[109, 111, 118, 101]⟩, ⟨#[99, 111, 110, 115]⟩, ⟨#[104, 101, 97, 100]⟩, ⟨#[116, 97, 105, 108]⟩, ⟨#[106, 117, 109, 112]⟩]
theorem names2_any (w : World) : Calls Try.prog 132 #[] w fun e w' => e = .returned (.slice (some ⟨w.heap.size, 0, none⟩) 6 6) ∧ w'.cell? ⟨w.heap.size, 1, none⟩ = some (.string ⟨#[109, 111, 118, 101]⟩) ∧ w'.cell? ⟨w.heap.size, 2, none⟩ = some (.string ⟨#[99, 111, 110, 115]⟩) ∧ w.heap.size < w'.heap.size ∧ Below w.heap.size w w' := by
  go_enter Try.func132, Try.ntmps132
  go_wp2
  go_ret
  exact ⟨rfl, by simp [nameL], by simp [nameL], by simp, (Below.refl _ _).alloc (Nat.le_refl _) _⟩

set_option maxHeartbeats 4000000 in
theorem textM10 (w : World) : Calls Try.prog 111 #[.agg #[.int .i64 1, .int .i64 1, .int .i64 0, .int .i64 0, .string ⟨#[]⟩]] w fun e w' => e = .returned (.string ⟨#[109, 111, 118, 101, 32, 49, 32, 48]⟩) ∧ Below w.heap.size w w' := by
  have hb0 := (Below.refl w.heap.size w).alloc (Nat.le_refl _) (.cells #[.int .i64 1, .int .i64 1, .int .i64 0, .int .i64 0, .string ⟨#[]⟩] 52)
  have hblk := heap_alloc_new w (.cells #[.int .i64 1, .int .i64 1, .int .i64 0, .int .i64 0, .string ⟨#[]⟩] 52)
  obtain ⟨w1, hW⟩ : ∃ B, w.alloc (.cells #[.int .i64 1, .int .i64 1, .int .i64 0, .int .i64 0, .string ⟨#[]⟩] 52) = B := ⟨_, rfl⟩
  have hsz : w1.heap.size = w.heap.size + 1 := by rw [← hW]; simp
  rw [hW] at hb0 hblk
  have cc := (block_cells hblk).1
  have cl := fun (w' : World) (hb : Below w1.heap.size w1 w') (j : Nat) => (hb.cell (p := ⟨w.heap.size, j, none⟩) (by show w.heap.size < w1.heap.size; omega)).trans (cc j)
  have c0 := fun w' hb => (cl w' hb 0)
  have c1 := fun w' hb => (cl w' hb 1)
  have c2 := fun w' hb => (cl w' hb 2)
  have c3 := fun w' hb => (cl w' hb 3)
  simp only [List.getElem?_toArray, List.getElem?_cons_zero, List.getElem?_cons_succ] at c0 c1 c2 c3
  have d0 := c0 w1 (Below.refl _ _)
  have d1 := c1 w1 (Below.refl _ _)
  clear hblk cc cl hsz
  have kN := fun (w' : World) (hb : Below w1.heap.size w1 w') => (names2_any w').mono fun e w'' h => (show e = .returned (.slice (some ⟨w'.heap.size, 0, none⟩) 6 6) ∧ w''.cell? ⟨w'.heap.size, 1, none⟩ = some (.string ⟨#[109, 111, 118, 101]⟩) ∧ w'.heap.size < w''.heap.size ∧ Hid (Below w'.heap.size w' w'') ∧ Below w1.heap.size w1 w'' from ⟨h.1, h.2.1, h.2.2.2.1, Lib.hid h.2.2.2.2, hb.trans (h.2.2.2.2.mono hb.size)⟩)
  have kD0 := fun (w' : World) (hb : Below w1.heap.size w1 w') => (dec0_any w').mono fun e w'' h => (show e = .returned (.string ⟨#[48]⟩) ∧ Hid (Below w'.heap.size w' w'') ∧ Below w1.heap.size w1 w'' from ⟨h.1, Lib.hid h.2, hb.trans (h.2.mono hb.size)⟩)
  have kD1 := fun (w' : World) (hb : Below w1.heap.size w1 w') => (dec1_any w').mono fun e w'' h => (show e = .returned (.string ⟨#[49]⟩) ∧ Hid (Below w'.heap.size w' w'') ∧ Below w1.heap.size w1 w'' from ⟨h.1, Lib.hid h.2, hb.trans (h.2.mono hb.size)⟩)
  go_enter Try.func111, Try.ntmps111
  go_wp2
  go_region_law ((first
    | (go_simp; (with_reducible refine (kN _ (by first | exact hb2 | exact hb1 | exact Below.refl _ _ | exact hb1.drew | exact (Below.refl _ _).drew)).mono ?_); rintro e w4 ⟨rfl, hcN, hltN, hbN, hb4⟩; (first | have hcN : w4.cell? ⟨w2.heap.size, 1, none⟩ = some (.string ⟨#[109, 111, 118, 101]⟩) := hcN | have hcN : w4.cell? ⟨w1.heap.size, 1, none⟩ = some (.string ⟨#[109, 111, 118, 101]⟩) := hcN); have e0 := c0 _ hb4; have e1 := c1 _ hb4)
    | (go_simp; (with_reducible refine (kD1 _ (by first | exact hb4 | exact Below.refl _ _ | exact hb4.drew | exact (Below.refl _ _).drew)).mono ?_); rintro e w2 ⟨rfl, hbD, hb2⟩; have e0 := c0 _ hb2; have e1 := c1 _ hb2; try have hcN := (hbD.out.cell hltN).trans hcN)))
  all_goals (
  have x2 := c2 _ hb2
  have y2 := c2 _ hb4
  go_wp2_with fail
  refine (kD0 _ (by first | exact hb6 | exact hb5 | exact hb2 | exact hb4 | exact hb6.drew | exact hb5.drew | exact hb2.drew | exact hb4.drew)).mono ?_
  rintro e w5 ⟨rfl, hbD5, hb5⟩
  go_wp2
  go_ret
  exact ⟨rfl, hb0.trans (hb5.mono hb0.size)⟩)

set_option maxHeartbeats 4000000 in
theorem textM20 (w : World) : Calls Try.prog 111 #[.agg #[.int .i64 1, .int .i64 2, .int .i64 0, .int .i64 0, .string ⟨#[]⟩]] w fun e w' => e = .returned (.string ⟨#[109, 111, 118, 101, 32, 50, 32, 48]⟩) ∧ Below w.heap.size w w' := by
  have hb0 := (Below.refl w.heap.size w).alloc (Nat.le_refl _) (.cells #[.int .i64 1, .int .i64 2, .int .i64 0, .int .i64 0, .string ⟨#[]⟩] 52)
  have hblk := heap_alloc_new w (.cells #[.int .i64 1, .int .i64 2, .int .i64 0, .int .i64 0, .string ⟨#[]⟩] 52)
  obtain ⟨w1, hW⟩ : ∃ B, w.alloc (.cells #[.int .i64 1, .int .i64 2, .int .i64 0, .int .i64 0, .string ⟨#[]⟩] 52) = B := ⟨_, rfl⟩
  have hsz : w1.heap.size = w.heap.size + 1 := by rw [← hW]; simp
  rw [hW] at hb0 hblk
  have cc := (block_cells hblk).1
  have cl := fun (w' : World) (hb : Below w1.heap.size w1 w') (j : Nat) => (hb.cell (p := ⟨w.heap.size, j, none⟩) (by show w.heap.size < w1.heap.size; omega)).trans (cc j)
  have c0 := fun w' hb => (cl w' hb 0)
  have c1 := fun w' hb => (cl w' hb 1)
  have c2 := fun w' hb => (cl w' hb 2)
  have c3 := fun w' hb => (cl w' hb 3)
  simp only [List.getElem?_toArray, List.getElem?_cons_zero, List.getElem?_cons_succ] at c0 c1 c2 c3
  have d0 := c0 w1 (Below.refl _ _)
  have d1 := c1 w1 (Below.refl _ _)
  clear hblk cc cl hsz
  have kN := fun (w' : World) (hb : Below w1.heap.size w1 w') => (names2_any w').mono fun e w'' h => (show e = .returned (.slice (some ⟨w'.heap.size, 0, none⟩) 6 6) ∧ w''.cell? ⟨w'.heap.size, 1, none⟩ = some (.string ⟨#[109, 111, 118, 101]⟩) ∧ w'.heap.size < w''.heap.size ∧ Hid (Below w'.heap.size w' w'') ∧ Below w1.heap.size w1 w'' from ⟨h.1, h.2.1, h.2.2.2.1, Lib.hid h.2.2.2.2, hb.trans (h.2.2.2.2.mono hb.size)⟩)
  have kD0 := fun (w' : World) (hb : Below w1.heap.size w1 w') => (dec0_any w').mono fun e w'' h => (show e = .returned (.string ⟨#[48]⟩) ∧ Hid (Below w'.heap.size w' w'') ∧ Below w1.heap.size w1 w'' from ⟨h.1, Lib.hid h.2, hb.trans (h.2.mono hb.size)⟩)
  have kD2 := fun (w' : World) (hb : Below w1.heap.size w1 w') => (dec2_any w').mono fun e w'' h => (show e = .returned (.string ⟨#[50]⟩) ∧ Hid (Below w'.heap.size w' w'') ∧ Below w1.heap.size w1 w'' from ⟨h.1, Lib.hid h.2, hb.trans (h.2.mono hb.size)⟩)
  go_enter Try.func111, Try.ntmps111
  go_wp2
  go_region_law ((first
    | (go_simp; (with_reducible refine (kN _ (by first | exact hb2 | exact hb1 | exact Below.refl _ _ | exact hb1.drew | exact (Below.refl _ _).drew)).mono ?_); rintro e w4 ⟨rfl, hcN, hltN, hbN, hb4⟩; (first | have hcN : w4.cell? ⟨w2.heap.size, 1, none⟩ = some (.string ⟨#[109, 111, 118, 101]⟩) := hcN | have hcN : w4.cell? ⟨w1.heap.size, 1, none⟩ = some (.string ⟨#[109, 111, 118, 101]⟩) := hcN); have e0 := c0 _ hb4; have e1 := c1 _ hb4)
    | (go_simp; (with_reducible refine (kD2 _ (by first | exact hb4 | exact Below.refl _ _ | exact hb4.drew | exact (Below.refl _ _).drew)).mono ?_); rintro e w2 ⟨rfl, hbD, hb2⟩; have e0 := c0 _ hb2; have e1 := c1 _ hb2; try have hcN := (hbD.out.cell hltN).trans hcN)))
  all_goals (
  have x2 := c2 _ hb2
  have y2 := c2 _ hb4
  go_wp2_with fail
  refine (kD0 _ (by first | exact hb6 | exact hb5 | exact hb2 | exact hb4 | exact hb6.drew | exact hb5.drew | exact hb2.drew | exact hb4.drew)).mono ?_
  rintro e w5 ⟨rfl, hbD5, hb5⟩
  go_wp2
  go_ret
  exact ⟨rfl, hb0.trans (hb5.mono hb0.size)⟩)

set_option maxHeartbeats 4000000 in
theorem textM01 (w : World) : Calls Try.prog 111 #[.agg #[.int .i64 1, .int .i64 0, .int .i64 1, .int .i64 0, .string ⟨#[]⟩]] w fun e w' => e = .returned (.string ⟨#[109, 111, 118, 101, 32, 48, 32, 49]⟩) ∧ Below w.heap.size w w' := by
  have hb0 := (Below.refl w.heap.size w).alloc (Nat.le_refl _) (.cells #[.int .i64 1, .int .i64 0, .int .i64 1, .int .i64 0, .string ⟨#[]⟩] 52)
  have hblk := heap_alloc_new w (.cells #[.int .i64 1, .int .i64 0, .int .i64 1, .int .i64 0, .string ⟨#[]⟩] 52)
  obtain ⟨w1, hW⟩ : ∃ B, w.alloc (.cells #[.int .i64 1, .int .i64 0, .int .i64 1, .int .i64 0, .string ⟨#[]⟩] 52) = B := ⟨_, rfl⟩
  have hsz : w1.heap.size = w.heap.size + 1 := by rw [← hW]; simp
  rw [hW] at hb0 hblk
  have cc := (block_cells hblk).1
  have cl := fun (w' : World) (hb : Below w1.heap.size w1 w') (j : Nat) => (hb.cell (p := ⟨w.heap.size, j, none⟩) (by show w.heap.size < w1.heap.size; omega)).trans (cc j)
  have c0 := fun w' hb => (cl w' hb 0)
  have c1 := fun w' hb => (cl w' hb 1)
  have c2 := fun w' hb => (cl w' hb 2)
  have c3 := fun w' hb => (cl w' hb 3)
  simp only [List.getElem?_toArray, List.getElem?_cons_zero, List.getElem?_cons_succ] at c0 c1 c2 c3
  have d0 := c0 w1 (Below.refl _ _)
  have d1 := c1 w1 (Below.refl _ _)
  clear hblk cc cl hsz
  have kN := fun (w' : World) (hb : Below w1.heap.size w1 w') => (names2_any w').mono fun e w'' h => (show e = .returned (.slice (some ⟨w'.heap.size, 0, none⟩) 6 6) ∧ w''.cell? ⟨w'.heap.size, 1, none⟩ = some (.string ⟨#[109, 111, 118, 101]⟩) ∧ w'.heap.size < w''.heap.size ∧ Hid (Below w'.heap.size w' w'') ∧ Below w1.heap.size w1 w'' from ⟨h.1, h.2.1, h.2.2.2.1, Lib.hid h.2.2.2.2, hb.trans (h.2.2.2.2.mono hb.size)⟩)
  have kD0 := fun (w' : World) (hb : Below w1.heap.size w1 w') => (dec0_any w').mono fun e w'' h => (show e = .returned (.string ⟨#[48]⟩) ∧ Hid (Below w'.heap.size w' w'') ∧ Below w1.heap.size w1 w'' from ⟨h.1, Lib.hid h.2, hb.trans (h.2.mono hb.size)⟩)
  have kD1 := fun (w' : World) (hb : Below w1.heap.size w1 w') => (dec1_any w').mono fun e w'' h => (show e = .returned (.string ⟨#[49]⟩) ∧ Hid (Below w'.heap.size w' w'') ∧ Below w1.heap.size w1 w'' from ⟨h.1, Lib.hid h.2, hb.trans (h.2.mono hb.size)⟩)
  go_enter Try.func111, Try.ntmps111
  go_wp2
  go_region_law ((first
    | (go_simp; (with_reducible refine (kN _ (by first | exact hb2 | exact hb1 | exact Below.refl _ _ | exact hb1.drew | exact (Below.refl _ _).drew)).mono ?_); rintro e w4 ⟨rfl, hcN, hltN, hbN, hb4⟩; (first | have hcN : w4.cell? ⟨w2.heap.size, 1, none⟩ = some (.string ⟨#[109, 111, 118, 101]⟩) := hcN | have hcN : w4.cell? ⟨w1.heap.size, 1, none⟩ = some (.string ⟨#[109, 111, 118, 101]⟩) := hcN); have e0 := c0 _ hb4; have e1 := c1 _ hb4)
    | (go_simp; (with_reducible refine (kD0 _ (by first | exact hb4 | exact Below.refl _ _ | exact hb4.drew | exact (Below.refl _ _).drew)).mono ?_); rintro e w2 ⟨rfl, hbD, hb2⟩; have e0 := c0 _ hb2; have e1 := c1 _ hb2; try have hcN := (hbD.out.cell hltN).trans hcN)))
  all_goals (
  have x2 := c2 _ hb2
  have y2 := c2 _ hb4
  go_wp2_with fail
  refine (kD1 _ (by first | exact hb6 | exact hb5 | exact hb2 | exact hb4 | exact hb6.drew | exact hb5.drew | exact hb2.drew | exact hb4.drew)).mono ?_
  rintro e w5 ⟨rfl, hbD5, hb5⟩
  go_wp2
  go_ret
  exact ⟨rfl, hb0.trans (hb5.mono hb0.size)⟩)

set_option maxHeartbeats 4000000 in
theorem textC (w : World) : Calls Try.prog 111 #[.agg #[.int .i64 2, .int .i64 0, .int .i64 2, .int .i64 0, .string ⟨#[]⟩]] w fun e w' => e = .returned (.string ⟨#[99, 111, 110, 115, 32, 48, 32, 50, 32, 48]⟩) ∧ Below w.heap.size w w' := by
  have hb0 := (Below.refl w.heap.size w).alloc (Nat.le_refl _) (.cells #[.int .i64 2, .int .i64 0, .int .i64 2, .int .i64 0, .string ⟨#[]⟩] 52)
  have hblk := heap_alloc_new w (.cells #[.int .i64 2, .int .i64 0, .int .i64 2, .int .i64 0, .string ⟨#[]⟩] 52)
  obtain ⟨w1, hW⟩ : ∃ B, w.alloc (.cells #[.int .i64 2, .int .i64 0, .int .i64 2, .int .i64 0, .string ⟨#[]⟩] 52) = B := ⟨_, rfl⟩
  have hsz : w1.heap.size = w.heap.size + 1 := by rw [← hW]; simp
  rw [hW] at hb0 hblk
  have cc := (block_cells hblk).1
  have cl := fun (w' : World) (hb : Below w1.heap.size w1 w') (j : Nat) => (hb.cell (p := ⟨w.heap.size, j, none⟩) (by show w.heap.size < w1.heap.size; omega)).trans (cc j)
  have c0 := fun w' hb => (cl w' hb 0)
  have c1 := fun w' hb => (cl w' hb 1)
  have c2 := fun w' hb => (cl w' hb 2)
  have c3 := fun w' hb => (cl w' hb 3)
  simp only [List.getElem?_toArray, List.getElem?_cons_zero, List.getElem?_cons_succ] at c0 c1 c2 c3
  have d0 := c0 w1 (Below.refl _ _)
  have d1 := c1 w1 (Below.refl _ _)
  clear hblk cc cl hsz
  have kN := fun (w' : World) (hb : Below w1.heap.size w1 w') => (names2_any w').mono fun e w'' h => (show e = .returned (.slice (some ⟨w'.heap.size, 0, none⟩) 6 6) ∧ w''.cell? ⟨w'.heap.size, 2, none⟩ = some (.string ⟨#[99, 111, 110, 115]⟩) ∧ w'.heap.size < w''.heap.size ∧ Hid (Below w'.heap.size w' w'') ∧ Below w1.heap.size w1 w'' from ⟨h.1, h.2.2.1, h.2.2.2.1, Lib.hid h.2.2.2.2, hb.trans (h.2.2.2.2.mono hb.size)⟩)
  have kD0 := fun (w' : World) (hb : Below w1.heap.size w1 w') => (dec0_any w').mono fun e w'' h => (show e = .returned (.string ⟨#[48]⟩) ∧ Hid (Below w'.heap.size w' w'') ∧ Below w1.heap.size w1 w'' from ⟨h.1, Lib.hid h.2, hb.trans (h.2.mono hb.size)⟩)
  have kD2 := fun (w' : World) (hb : Below w1.heap.size w1 w') => (dec2_any w').mono fun e w'' h => (show e = .returned (.string ⟨#[50]⟩) ∧ Hid (Below w'.heap.size w' w'') ∧ Below w1.heap.size w1 w'' from ⟨h.1, Lib.hid h.2, hb.trans (h.2.mono hb.size)⟩)
  go_enter Try.func111, Try.ntmps111
  go_wp2
  go_region_law ((first
    | (go_simp; (with_reducible refine (kN _ (by first | exact hb2 | exact hb1 | exact Below.refl _ _ | exact hb1.drew | exact (Below.refl _ _).drew)).mono ?_); rintro e w4 ⟨rfl, hcN, hltN, hbN, hb4⟩; (first | have hcN : w4.cell? ⟨w2.heap.size, 2, none⟩ = some (.string ⟨#[99, 111, 110, 115]⟩) := hcN | have hcN : w4.cell? ⟨w1.heap.size, 2, none⟩ = some (.string ⟨#[99, 111, 110, 115]⟩) := hcN); have e0 := c0 _ hb4; have e1 := c1 _ hb4)
    | (go_simp; (with_reducible refine (kD0 _ (by first | exact hb4 | exact Below.refl _ _ | exact hb4.drew | exact (Below.refl _ _).drew)).mono ?_); rintro e w2 ⟨rfl, hbD, hb2⟩; have e0 := c0 _ hb2; have e1 := c1 _ hb2; try have hcN := (hbD.out.cell hltN).trans hcN)))
  all_goals (
  have x2 := c2 _ hb2
  have y2 := c2 _ hb4
  have x3 := c3 _ hb2
  have y3 := c3 _ hb4
  go_wp2
  go_region_law ((first
    | (go_simp; (with_reducible refine (kD2 _ (by first | exact hb6 | exact hb5 | exact hb2 | exact hb4 | exact hb6.drew | exact hb5.drew | exact hb2.drew | exact hb4.drew)).mono ?_); rintro e w5 ⟨rfl, hbD5, hb5⟩; have z2 := c2 _ hb5; have z3 := c3 _ hb5)
    | (go_simp; (with_reducible refine (kD0 _ (by first | exact hb6 | exact hb5 | exact hb2 | exact hb4 | exact hb6.drew | exact hb5.drew | exact hb2.drew | exact hb4.drew)).mono ?_); rintro e w6 ⟨rfl, hbD6, hb6⟩; have u2 := c2 _ hb6; have u3 := c3 _ hb6)))
  all_goals (
  go_wp2
  go_ret
  exact ⟨rfl, by first | exact hb0.trans (hb5.mono hb0.size) | exact hb0.trans (hb6.mono hb0.size)⟩))

end Go.Proofs.Ytaiomcjopgnfpaa

namespace Go.Proofs.Ytaiomcjopgnfpaa
open Go.RowKit


def txL : List (List UInt8) := [[109, 111, 118, 101, 32, 49, 32, 48], [109, 111, 118, 101, 32, 50, 32, 48], [109, 111, 118, 101, 32, 48, 32, 49], [99, 111, 110, 115, 32, 48, 32, 50, 32, 48]]
theorem textOf_all (k : Nat) (x : Ins) (t : List UInt8) (hx : (pairL [] [])[k]? = some x) (ht : txL[k]? = some t) (w : World) :
    Calls Try.prog 111 #[.agg #[.int .i64 x.op, .int .i64 x.a, .int .i64 x.b, .int .i64 x.c, .string x.tree]] w fun e w' => e = .returned (.string ⟨t.toArray⟩) ∧ Below w.heap.size w w' := by
  have hp : pairL [] [] = [moveI 1 0, moveI 2 0, moveI 0 1, consI 0 2 0] := by decide
  rw [hp] at hx
  match k, hx, ht with
  | 0, hx, ht => cases hx; cases ht; exact textM10 w
  | 1, hx, ht => cases hx; cases ht; exact textM20 w
  | 2, hx, ht => cases hx; cases ht; exact textM01 w
  | 3, hx, ht => cases hx; cases ht; exact textC w

set_option maxHeartbeats 4000000 in
theorem text_any (v : Value) (l : List Ins) (T : List (List UInt8)) (hlen : l.length = T.length) (htot : (jn T).length ≤ 1000000000)
    (hk : ∀ (k : Nat) (x : Ins) (t : List UInt8), l[k]? = some x → T[k]? = some t → ∀ w : World, Calls Try.prog 111 #[.agg #[.int .i64 x.op, .int .i64 x.a, .int .i64 x.b, .int .i64 x.c, .string x.tree]] w fun e w' => e = .returned (.string ⟨t.toArray⟩) ∧ Below w.heap.size w w')
    (w : World) (hl : InsRow w w.heap.size v l) :
    Calls Try.prog 77 #[v] w fun e w' => e = .returned (.string ⟨(jn T).toArray⟩) ∧ Below w.heap.size w w' := by
  obtain ⟨ao, cap, rfl⟩ := hl.len
  have hb0 := hl.2.1
  obtain ⟨n, hn'⟩ : ∃ n, l.length = n := ⟨_, rfl⟩
  rw [hn'] at hlen hl hb0 ⊢
  have HN := Lib.hid hn'
  have HLT := Lib.hid hlen
  have HL := Lib.hid hl
  have HK := Lib.hid hk
  have HT := Lib.hid htot
  obtain ⟨R, hR⟩ : ∃ r, (⟨(jn T).toArray⟩ : ByteArray) = r := ⟨_, rfl⟩
  rw [hR]
  have HR := Lib.hid hR
  clear hn' hlen hl hk htot hR
  go_enter Try.func77, Try.ntmps77
  go_wp2
  go_loopg [3, 4] n (fun g v i wr => ∃ k m : Nat, k ≤ n ∧ g = n - k ∧ i = .int .i64 k ∧ Aside (m = (jn (T.take k)).length) ∧ Hid (wr.ownsRow w.heap.size 5 1 v m (Lib.byteCells (jn (T.take k))) ∧ Below w.heap.size w wr))
  case atStart => exact ⟨0, 0, Nat.zero_le _, rfl, rfl, rfl, World.ownsRow_nil _ _ _ _, Below.refl _ _⟩
  case round =>
    obtain ⟨k, m, hk, hg, rfl, hm, hP⟩ := hrel
    have HG := Lib.hid hg; clear hg
    have HM := Lib.hid hm.out
    clear hm
    have hmb : m ≤ 1000000000 := by rw [HM.out]; exact Nat.le_trans (jn_mono T k) HT.out
    by_cases hlt : k < n
    · obtain ⟨x, hx⟩ : ∃ s, l[k]? = some s := ⟨_, List.getElem?_eq_getElem (by rw [HN.out]; exact hlt)⟩
      obtain ⟨t, ht⟩ : ∃ s, T[k]? = some s := ⟨_, List.getElem?_eq_getElem (by rw [← HLT.out]; exact hlt)⟩
      have hl2 := HL.out.below hP.out.2
      obtain ⟨g, off, rfl, hg, c0, c1, c2, c3, c4⟩ := hl2.get hx
      have HS := Lib.hid (jn_succ T k ht)
      have hm2 : m + (if k = 0 then 0 else 2) + t.length ≤ 1000000000 := by
        have h1 := Nat.le_trans (jn_mono T (k + 1)) HT.out
        rw [HS.out, List.length_append, List.length_append, ← HM.out] at h1
        split <;> rename_i h <;> simp [h] at h1 <;> omega
      have kt := HK.out k x t hx ht
      have HTX := Lib.hid ht
      have HX := Lib.hid hx
      clear hx hl2 ht
      have hi0 : (0 : Int) ≤ (k : Int) := Int.natCast_nonneg _
      have hi1 : (k : Int) < (n : Int) := by omega
      by_cases h0 : k = 0
      · rw [if_pos h0] at hm2
        rw [if_pos h0] at HS
        have H0 := Lib.hid h0
        have hi2 : ¬ (0 : Int) < (k : Int) := by omega
        clear h0
        go_wp2_with fail
        refine (kt _).mono ?_
        rintro e w1 ⟨rfl, hb1⟩
        have hown := own_below hP.out.1 hb1
        have hb2 := hP.out.2.trans (hb1.mono hP.out.2.size)
        have hsz := hb2.size
        clear hb1 kt c0 c1 c2 c3 c4 hP
        go_wp2_with (at_builtin; refine app_str el_u8 Try.underlying9 rfl _ _ rfl rfl hown ⟨t.toArray⟩ rfl ?c2 hsz hb2 (Nat.le_refl _) ?_)
        case c2 => have : (⟨t.toArray⟩ : ByteArray).size = t.length := by simp [ByteArray.size]
                   omega
        intro v' w' hown' hb'
        have hnew : Hid (w'.ownsRow w.heap.size 5 1 v' (m + t.length) (Lib.byteCells (jn (T.take (k + 1)))) ∧ Below w.heap.size w w') := Lib.hid ⟨by rw [HS.out]; simpa [Lib.byteCells, Lib.strCells, ByteArray.size] using hown', hb'⟩
        have hlen : Hid (m + t.length = (jn (T.take (k + 1))).length) := Lib.hid (by rw [HS.out, HM.out]; simp)
        clear hown hown' hb' hb2 hsz
        go_wp2
        go_roundg (n - (k + 1))
        case measure => rw [HG.out]; omega
        case rel => exact ⟨k + 1, m + t.length, by omega, rfl, by go_num, hlen.out, hnew⟩
      · rw [if_neg h0] at hm2
        have hi2 : (0 : Int) < (k : Int) := by omega
        have H0 := Lib.hid h0
        clear h0
        have hown := hP.out.1
        have hb := hP.out.2
        have hsz := hb.size
        go_wp2_with (at_builtin; refine app_str el_u8 Try.underlying9 rfl _ _ rfl rfl hown ⟨#[59, 32]⟩ rfl ?c2 hsz hb (Nat.le_refl _) ?_)
        case c2 => show m + 2 ≤ _; omega
        intro v1 w1 hown1 hb1
        have hr := HL.out.below hb1
        have HO1 := Lib.hid hown1
        have HB1 := Lib.hid hb1
        clear hown hb hsz hown1 hP c0 c1 c2 c3 c4
        obtain ⟨g2, off2, he, hg2, c0, c1, c2, c3, c4⟩ := hr.get HX.out
        cases he
        clear hr hb1
        go_wp2_with fail
        refine (kt _).mono ?_
        rintro e w2 ⟨rfl, hb2⟩
        have hown := own_below HO1.out hb2
        have hb3 := HB1.out.trans (hb2.mono HB1.out.size)
        have hsz := hb3.size
        clear hb2 kt c0 c1 c2 c3 c4 HO1 HB1
        go_wp2_with (at_builtin; refine app_str el_u8 Try.underlying9 rfl _ _ rfl rfl hown ⟨t.toArray⟩ rfl ?c2 hsz hb3 (Nat.le_refl _) ?_)
        case c2 => have h1 : (⟨t.toArray⟩ : ByteArray).size = t.length := by simp [ByteArray.size]
                   have h2 : (⟨#[59, 32]⟩ : ByteArray).size = 2 := rfl
                   omega
        intro v' w' hown' hb'
        have hnew : Hid (w'.ownsRow w.heap.size 5 1 v' (m + 2 + t.length) (Lib.byteCells (jn (T.take (k + 1)))) ∧ Below w.heap.size w w') := Lib.hid ⟨by rw [HS.out, if_neg H0.out]; simpa [Lib.byteCells, Lib.strCells, ByteArray.size] using hown', hb'⟩
        have hlen : Hid (m + 2 + t.length = (jn (T.take (k + 1))).length) := Lib.hid (by rw [HS.out, HM.out, if_neg H0.out]; simp; omega)
        clear hown hown' hb' hb3 hsz
        go_wp2
        go_roundg (n - (k + 1))
        case measure => rw [HG.out]; omega
        case rel => exact ⟨k + 1, m + 2 + t.length, by omega, rfl, by go_num, hlen.out, hnew⟩
    · have hta : T.take k = T := List.take_of_length_le (by rw [← HLT.out]; omega)
      have hown := hP.out.1
      rw [hta] at hown
      have hcv := own_bytes (P := Try.prog) (jn T) hown 126 Try.underlying126 Try.underlying5 9 Try.underlying9
      have hb := hP.out.2
      clear hown hta hP
      go_wp2
      refine bodyPost_ret (v := .string ⟨(jn T).toArray⟩) (by simp [results, Try.results77, go_sem]) rfl ?_
      exact ⟨by rw [← HR.out], hb⟩
theorem textPair_any (v : Value) (w : World) (hl : InsRow w w.heap.size v (pairL [] [])) : Calls Try.prog 77 #[v] w fun e w' => e = .returned (.string ⟨#[109, 111, 118, 101, 32, 49, 32, 48, 59, 32, 109, 111, 118, 101, 32, 50, 32, 48, 59, 32, 109, 111, 118, 101, 32, 48, 32, 49, 59, 32, 99, 111, 110, 115, 32, 48, 32, 50, 32, 48]⟩) ∧ Below w.heap.size w w' := by
  have h := text_any v (pairL [] []) txL (by decide) (by decide) textOf_all w hl
  rwa [show (⟨(jn txL).toArray⟩ : ByteArray) = ⟨#[109, 111, 118, 101, 32, 49, 32, 48, 59, 32, 109, 111, 118, 101, 32, 50, 32, 48, 59, 32, 109, 111, 118, 101, 32, 48, 32, 49, 59, 32, 99, 111, 110, 115, 32, 48, 32, 50, 32, 48]⟩ by decide] at h

end Go.Proofs.Ytaiomcjopgnfpaa

namespace Go.Proofs.Ytaiomcjopgnfpaa
open Go.RowKit

/-- A program that was made, where an error may be due. -/
def TB (w : World) (B : Nat) (d : Int) (m : List Ins) (v : Value) : Prop := (d = 0 → InsRow w B v m) ∧ (d ≠ 0 → v = .slice none 0 0)
theorem TB.below {w w' : World} {B : Nat} {d : Int} {m : List Ins} {v : Value} (h : TB w B d m v) (hb : Below B w w') : TB w' B d m v := ⟨fun e => (h.1 e).below hb, h.2⟩
theorem TB.mono {w : World} {B B' : Nat} {d : Int} {m : List Ins} {v : Value} (h : TB w B d m v) (hB : B ≤ B') : TB w B' d m v := ⟨fun e => (h.1 e).mono hB, h.2⟩
theorem made_tb {f : Nat} {args : Array Value} {w : World} {d : Int} {m : List Ins} (h : Calls Try.prog f args w (MadeOut w d m)) : Calls Try.prog f args w fun e w' => ∃ v, e = .returned (.tuple #[v, .int .i64 d]) ∧ TB w' w'.heap.size d m v ∧ Below w.heap.size w w' := by
  refine h.mono ?_
  rintro e w' ⟨h1, h2⟩
  by_cases hd : d = 0
  · rw [if_pos hd] at h1
    obtain ⟨v, rfl, h3⟩ := h1
    exact ⟨v, by rw [hd], ⟨fun _ => h3, fun e => absurd hd e⟩, h2⟩
  · rw [if_neg hd] at h1
    exact ⟨_, h1, ⟨fun e => absurd e hd, fun _ => rfl⟩, h2⟩
theorem made_ok {f : Nat} {args : Array Value} {w : World} {ls : List (List Ins)} {m : List Ins} (hd : dueN ls m = 0) (h : Calls Try.prog f args w (MadeOut w (dueN ls m) m)) : Calls Try.prog f args w fun e w' => ∃ v, e = .returned (.tuple #[v, .int .i64 0]) ∧ InsRow w' w'.heap.size v m ∧ Below w.heap.size w w' := by
  rw [hd] at h
  refine (made_tb h).mono ?_
  rintro e w' ⟨v, rfl, h1, h2⟩
  exact ⟨v, rfl, h1.1 rfl, h2⟩
theorem told_any (d : Int) (v mv : Value) (ml : List Ins) (w : World) (h1 : TB w w.heap.size d ml v) (h2 : d = 0 → InsRow w w.heap.size mv ml) :
    Calls Try.prog 24 #[v, .int .i64 d, .int .i64 d, mv] w fun e w' => e = .returned (.bool true) ∧ Below w.heap.size w w' := by
  by_cases hd : d = 0
  · have h3 := h1.1 hd
    have h4 := h2 hd
    subst hd
    exact told_ok v mv ml w h3 h4
  · rw [h1.2 hd]; exact told_bad d hd mv w
theorem row_nil (w : World) (B : Nat) : InsRow w B (.slice none 0 0) [] := ⟨by simp, by simp, .inl ⟨rfl, .inl rfl⟩⟩
theorem returns_ok {l : List Ins} {t : Tr} {x y : ByteArray} (k : Nat) (hr : (goF l 2000 0 (startS t)).run = (y, k, 0)) (hv : validB l = true) (ht : t.size ≤ 2000000) (hS : TS t = x) (v : Value) (w : World) (hl : InsRow w w.heap.size v l) :
    Calls Try.prog 76 #[v, .string x, .string y] w fun e w' => e = .returned (.bool true) ∧ Below w.heap.size w w' := by
  have kr := runOk_at 2000 2000 y k 0 hr hv ht hS rfl (by decide) hl
  go_enter Try.func76, Try.ntmps76
  go_wp2_with fail
  refine kr.mono ?_
  rintro e w1 ⟨rfl, hb1⟩
  go_wp2
  go_ret
  exact ⟨rfl, hb1⟩

theorem thenDue : dueN [[tailI], [tailI]] (thenL [[tailI], [tailI]]) = 0 := by decide +kernel
theorem pairDue : dueN [[], []] (pairL [] []) = 0 := by decide +kernel
theorem whileDue : dueN [[], [tailI]] (whileL [] [tailI]) = 0 := by decide +kernel
def trL (n : Nat) : Tr := match n with | 0 => .nil | n + 1 => .pair .nil (trL n)
theorem runThen : (goF (thenL [[tailI], [tailI]]) 2000 0 (startS (trL 2))).run = (⟨#[48]⟩, 2, 0) := by decide +kernel
theorem runPair : (goF (pairL [] []) 2000 0 (startS (trL 0))).run = (⟨#[49, 48, 48]⟩, 4, 0) := by decide +kernel
theorem runWhile : (goF (whileL [] [tailI]) 2000 0 (startS (trL 3))).run = (⟨#[48]⟩, 23, 0) := by decide +kernel

set_option maxHeartbeats 4000000 in
theorem awake_any (w : World) : Calls Try.prog 26 #[] w fun e w' => e = .returned (.bool true) ∧ Below w.heap.size w w' := by
  have ch := Lib.hid (Below.refl w.heap.size w)
  go_enter Try.func26, Try.ntmps26
  go_wp2_with fail
  refine (tail4_any _).mono ?_
  rintro e w1 ⟨ta, tc, rfl, h1, hq⟩
  have ch := Lib.hid (ch.out.trans (hq.mono ch.out.size))
  clear hq
  have h1 := Lib.hid h1
  go_wp2_with fail
  refine (tail4_any _).mono ?_
  rintro e w2 ⟨ua, uc, rfl, h2, hq⟩
  have h1 := Lib.hid ((h1.out.below hq).mono hq.size)
  have ch := Lib.hid (ch.out.trans (hq.mono ch.out.size))
  clear hq
  have h2 := Lib.hid h2
  go_wp2_with fail
  have hL0 := ProgsRow.lit (w := w2) [.slice ta 1 tc, .slice ua 1 uc] [[tailI], [tailI]] rfl (by simp) (fun j u l hu hl => match j, u, l, hu, hl with | 0, _, _, hu, hl => by cases hu; cases hl; exact h1.out | 1, _, _, hu, hl => by cases hu; cases hl; exact h2.out)
  obtain ⟨w3, hW⟩ : ∃ B, w2.alloc (.cells #[.slice ta 1 tc, .slice ua 1 uc] 25) = B := ⟨_, rfl⟩
  rw [hW]
  have hq : Below w2.heap.size w2 w3 := by rw [← hW]; exact (Below.refl _ _).alloc (Nat.le_refl _) _
  have hL := Lib.hid (show ProgsRow w3 w3.heap.size (.slice (some ⟨w2.heap.size, 0, none⟩) 2 2) [[tailI], [tailI]] by rw [← hW]; exact hL0)
  clear hW hL0
  have h1 := Lib.hid ((h1.out.below hq).mono hq.size)
  have h2 := Lib.hid ((h2.out.below hq).mono hq.size)
  have ch := Lib.hid (ch.out.trans (hq.mono ch.out.size))
  clear hq
  refine (made_ok thenDue (bThen_any _ _ _ _ _ hL.out)).mono ?_
  rintro e w4 ⟨vt, rfl, hT, hq⟩
  have ch := Lib.hid (ch.out.trans (hq.mono ch.out.size))
  clear hq
  have hT := Lib.hid hT
  clear h1 h2 hL
  go_wp2_with fail
  refine (made_ok pairDue (bPair_any _ _ _ _ _ _ [] [] _ (row_nil _ _) (row_nil _ _))).mono ?_
  rintro e w5 ⟨vp, rfl, hP, hq⟩
  have hT := Lib.hid ((hT.out.below hq).mono hq.size)
  have ch := Lib.hid (ch.out.trans (hq.mono ch.out.size))
  clear hq
  have hP := Lib.hid hP
  go_wp2_with fail
  refine (tail4_any _).mono ?_
  rintro e w6 ⟨xa, xc, rfl, h3, hq⟩
  have hT := Lib.hid ((hT.out.below hq).mono hq.size)
  have hP := Lib.hid ((hP.out.below hq).mono hq.size)
  have ch := Lib.hid (ch.out.trans (hq.mono ch.out.size))
  clear hq
  have h3 := Lib.hid h3
  go_wp2_with fail
  refine (made_ok whileDue (bWhile_any _ _ _ _ _ _ [] [tailI] _ (row_nil _ _) h3.out)).mono ?_
  rintro e w7 ⟨vw, rfl, hW, hq⟩
  have hT := Lib.hid ((hT.out.below hq).mono hq.size)
  have hP := Lib.hid ((hP.out.below hq).mono hq.size)
  have h3 := Lib.hid ((h3.out.below hq).mono hq.size)
  have ch := Lib.hid (ch.out.trans (hq.mono ch.out.size))
  clear hq
  have hW := Lib.hid hW
  clear h3
  go_wp2_with fail
  refine (returns_ok 2 runThen (by decide +kernel) (by decide) (by decide) _ _ hT.out).mono ?_
  rintro e w8 ⟨rfl, hq⟩
  have hT := Lib.hid ((hT.out.below hq).mono hq.size)
  have hP := Lib.hid ((hP.out.below hq).mono hq.size)
  have hW := Lib.hid ((hW.out.below hq).mono hq.size)
  have ch := Lib.hid (ch.out.trans (hq.mono ch.out.size))
  clear hq
  go_wp2_with fail
  refine (returns_ok 4 runPair (by decide +kernel) (by decide) (by decide) _ _ hP.out).mono ?_
  rintro e w9 ⟨rfl, hq⟩
  have hT := Lib.hid ((hT.out.below hq).mono hq.size)
  have hP := Lib.hid ((hP.out.below hq).mono hq.size)
  have hW := Lib.hid ((hW.out.below hq).mono hq.size)
  have ch := Lib.hid (ch.out.trans (hq.mono ch.out.size))
  clear hq
  go_wp2_with fail
  refine (textPair_any _ _ hP.out).mono ?_
  rintro e w10 ⟨rfl, hq⟩
  have hT := Lib.hid ((hT.out.below hq).mono hq.size)
  have hP := Lib.hid ((hP.out.below hq).mono hq.size)
  have hW := Lib.hid ((hW.out.below hq).mono hq.size)
  have ch := Lib.hid (ch.out.trans (hq.mono ch.out.size))
  clear hq
  go_wp2_with fail
  refine (returns_ok 23 runWhile (by decide +kernel) (by decide) (by decide) _ _ hW.out).mono ?_
  rintro e w11 ⟨rfl, hq⟩
  have hT := Lib.hid ((hT.out.below hq).mono hq.size)
  have hP := Lib.hid ((hP.out.below hq).mono hq.size)
  have hW := Lib.hid ((hW.out.below hq).mono hq.size)
  have ch := Lib.hid (ch.out.trans (hq.mono ch.out.size))
  clear hq
  go_wp2
  go_ret
  exact ⟨rfl, ch.out⟩

end Go.Proofs.Ytaiomcjopgnfpaa

namespace Go.Proofs.Ytaiomcjopgnfpaa
open Go.RowKit

theorem dueN_zero {ls : List (List Ins)} {m : List Ins} (h : dueN ls m = 0) : allV ls = true := by
  cases hv : allV ls with
  | true => rfl
  | false => unfold dueN at h; rw [if_pos hv] at h; cases h
theorem due_at (v mv : Value) (ls : List (List Ins)) (m ml : List Ins) (w : World) (hE : dueF ls m = dueN ls m) (hml : allV ls = true → ml = m) (hl : ProgsRow w w.heap.size v ls) (hm : InsRow w w.heap.size mv ml) :
    Calls Try.prog 25 #[v, mv] w fun e w' => e = .returned (.int .i64 (dueN ls m)) ∧ Below w.heap.size w w' := by
  have kd := due_any v mv ls ml w hl hm
  have hd : dueF ls ml = dueN ls m := by
    cases hv : allV ls with
    | true => rw [hml hv]; exact hE
    | false => unfold dueF dueN; rw [if_pos hv, if_pos hv]
  rwa [hd] at kd
theorem told_at (v mv : Value) (ls : List (List Ins)) (m ml : List Ins) (w : World) (hml : allV ls = true → ml = m) (h1 : TB w w.heap.size (dueN ls m) m v) (hm : InsRow w w.heap.size mv ml) :
    Calls Try.prog 24 #[v, .int .i64 (dueN ls m), .int .i64 (dueN ls m), mv] w fun e w' => e = .returned (.bool true) ∧ Below w.heap.size w w' :=
  told_any _ v mv m w h1 fun e => by rw [← hml (dueN_zero e)]; exact hm

theorem refThen_row (v : Value) (ls : List (List Ins)) (w : World) (hl : ProgsRow w w.heap.size v ls) (hv : allV ls = true) (hT : lenS ls + 32 * ls.length ≤ 500000000) :
    Calls Try.prog 23 #[v] w fun e w' => ∃ v', e = .returned v' ∧ InsRow w' w'.heap.size v' (thenL ls) ∧ Below w.heap.size w w' :=
  (refThen_ok v ls w hl hv hT).mono fun e w' ⟨v', h1, h2, h3⟩ => ⟨v', h1, h2.row (by have := thenL_len ls hv; omega), h3⟩

set_option maxHeartbeats 8000000 in
theorem law_BuildThens {w : World} (v : Value) (ls : List (List Ins)) (hl : ProgsRow w w.heap.size v ls) (hT : lenS ls + 32 * ls.length ≤ 500000000) :
    Calls Try.prog 3 #[v] w fun e w' => e = .returned (.bool true) ∧ Below w.heap.size w w' := by
  obtain ⟨ao, cap, rfl⟩ := hl.len
  have hn5 := hl.1
  obtain ⟨n, hn'⟩ : ∃ n, ls.length = n := ⟨_, rfl⟩
  rw [hn'] at hl hn5 ⊢
  have HN := Lib.hid hn'
  have HT := Lib.hid hT
  clear hn' hT
  have hL := Lib.hid hl
  clear hl
  have ch := Lib.hid (Below.refl w.heap.size w)
  go_enter Try.func3, Try.ntmps3
  go_wp2_with fail
  refine (copied_any _ ls _ hL.out).mono ?_
  rintro e w1 ⟨vw, rfl, hWas, hq⟩
  have hL := Lib.hid ((hL.out.below hq).mono hq.size)
  have ch := Lib.hid (ch.out.trans (hq.mono ch.out.size))
  clear hq
  have hWas := Lib.hid hWas
  go_wp2_with fail
  refine (made_tb (bThen_any _ _ _ ls _ hL.out)).mono ?_
  rintro e w2 ⟨vt, rfl, hB, hq⟩
  have hL := Lib.hid ((hL.out.below hq).mono hq.size)
  have hWas := Lib.hid ((hWas.out.below hq).mono hq.size)
  have ch := Lib.hid (ch.out.trans (hq.mono ch.out.size))
  clear hq
  have hB := Lib.hid hB
  go_wp2_with fail
  refine (alike_self _ _ ls _ hL.out hWas.out).mono ?_
  rintro e w3 ⟨rfl, hq⟩
  have hL := Lib.hid ((hL.out.below hq).mono hq.size)
  have hWas := Lib.hid ((hWas.out.below hq).mono hq.size)
  have hB := Lib.hid ((hB.out.below hq).mono hq.size)
  have ch := Lib.hid (ch.out.trans (hq.mono ch.out.size))
  clear hq
  clear hWas
  go_wp2
  go_loopg [7, 8] n (fun gg va i wr => ∃ k : Nat, k ≤ n ∧ gg = n - k ∧ i = .int .i64 k ∧ va = .bool (allV (ls.take k)) ∧ Below w3.heap.size w3 wr)
  case atStart => exact ⟨0, by omega, rfl, rfl, rfl, Below.refl _ _⟩
  case round =>
    obtain ⟨k, hk, hg, rfl, rfl, hq⟩ := hrel
    have HG := Lib.hid hg; clear hg
    have hL := Lib.hid ((hL.out.below hq).mono hq.size)
    have hB := Lib.hid ((hB.out.below hq).mono hq.size)
    have ch := Lib.hid (ch.out.trans (hq.mono ch.out.size))
    have HQ := Lib.hid hq
    clear hq
    by_cases hlt : k < n
    · obtain ⟨l, hx⟩ : ∃ s, ls[k]? = some s := ⟨_, List.getElem?_eq_getElem (by rw [HN.out]; exact hlt)⟩
      obtain ⟨g, off, u, hao, hg, c0, hu⟩ := hL.out.get hx
      have HGG := Lib.hid hg
      have hi0 : (0 : Int) ≤ (k : Int) := Int.natCast_nonneg _
      have hi1 : (k : Int) < (n : Int) := by omega
      have HX := Lib.hid hx
      have hs := Lib.hid (allV_succ ls k hx)
      clear hx hg
      cases hva : allV (ls.take k) with
      | true =>
        obtain ⟨q, hqq⟩ : ∃ q, validB l = q := ⟨_, rfl⟩
        have kr := cvalid_at q hqq hu
        have hs := Lib.hid (show allV (ls.take (k + 1)) = q by rw [hs.out, hva, hqq]; rfl)
        subst hao
        clear hqq hu hva
        go_wp2_with fail
        refine kr.mono ?_
        rintro e w9 ⟨rfl, hb1⟩
        have HB2 := Lib.hid (HQ.out.trans (hb1.mono HQ.out.size))
        clear hb1 kr c0
        go_wp2
        go_roundg (n - (k + 1))
        case measure => rw [HG.out]; omega
        case rel => exact ⟨k + 1, by omega, rfl, by go_num, by rw [hs.out], HB2.out⟩
      | false =>
        have hs := Lib.hid (show allV (ls.take (k + 1)) = false by rw [hs.out, hva]; rfl)
        subst hao
        clear hu hva c0
        go_wp2
        go_roundg (n - (k + 1))
        case measure => rw [HG.out]; omega
        case rel => exact ⟨k + 1, by omega, rfl, by go_num, by rw [hs.out], HQ.out⟩
    · have hkn : k = n := by omega
      subst hkn
      rw [List.take_of_length_le (by rw [HN.out]; omega)]
      clear hlt HQ HG
      cases hva : allV ls with
      | true =>
        have hT := HT.out
        have HV := Lib.hid hva
        clear hva
        go_wp2_with fail
        refine (refThen_row _ ls _ hL.out HV.out HT.out).mono ?_
        rintro e w4 ⟨vm, rfl, hM, hq⟩
        have hL := Lib.hid ((hL.out.below hq).mono hq.size)
        have hB := Lib.hid ((hB.out.below hq).mono hq.size)
        have ch := Lib.hid (ch.out.trans (hq.mono ch.out.size))
        clear hq
        have hM := Lib.hid hM
        go_wp2_with fail
        refine (due_at _ _ ls (thenL ls) (thenL ls) _ (dueF_then ls) (fun _ => rfl) hL.out hM.out).mono ?_
        rintro e w5 ⟨rfl, hq⟩
        have hL := Lib.hid ((hL.out.below hq).mono hq.size)
        have hB := Lib.hid ((hB.out.below hq).mono hq.size)
        have hM := Lib.hid ((hM.out.below hq).mono hq.size)
        have ch := Lib.hid (ch.out.trans (hq.mono ch.out.size))
        clear hq
        go_wp2_with fail
        refine (told_at _ _ ls (thenL ls) (thenL ls) _ (fun _ => rfl) hB.out hM.out).mono ?_
        rintro e w6 ⟨rfl, hq⟩
        have hL := Lib.hid ((hL.out.below hq).mono hq.size)
        have hB := Lib.hid ((hB.out.below hq).mono hq.size)
        have hM := Lib.hid ((hM.out.below hq).mono hq.size)
        have ch := Lib.hid (ch.out.trans (hq.mono ch.out.size))
        clear hq
        go_wp2_with fail
        refine (awake_any _).mono ?_
        rintro e w7 ⟨rfl, hq⟩
        have hL := Lib.hid ((hL.out.below hq).mono hq.size)
        have hB := Lib.hid ((hB.out.below hq).mono hq.size)
        have hM := Lib.hid ((hM.out.below hq).mono hq.size)
        have ch := Lib.hid (ch.out.trans (hq.mono ch.out.size))
        clear hq
        go_wp2
        go_ret
        exact ⟨rfl, ch.out⟩
      | false =>
        have hml := Lib.hid (show allV ls = true → [] = thenL ls from fun e => by rw [hva] at e; cases e)
        clear hva
        have hM := Lib.hid (row_nil wr wr.heap.size)
        go_wp2_with fail
        refine (due_at _ _ ls (thenL ls) [] _ (dueF_then ls) hml.out hL.out hM.out).mono ?_
        rintro e w4 ⟨rfl, hq⟩
        have hL := Lib.hid ((hL.out.below hq).mono hq.size)
        have hB := Lib.hid ((hB.out.below hq).mono hq.size)
        have hM := Lib.hid ((hM.out.below hq).mono hq.size)
        have ch := Lib.hid (ch.out.trans (hq.mono ch.out.size))
        clear hq
        go_wp2_with fail
        refine (told_at _ _ ls (thenL ls) [] _ hml.out hB.out hM.out).mono ?_
        rintro e w5 ⟨rfl, hq⟩
        have hL := Lib.hid ((hL.out.below hq).mono hq.size)
        have hB := Lib.hid ((hB.out.below hq).mono hq.size)
        have hM := Lib.hid ((hM.out.below hq).mono hq.size)
        have ch := Lib.hid (ch.out.trans (hq.mono ch.out.size))
        clear hq
        go_wp2_with fail
        refine (awake_any _).mono ?_
        rintro e w6 ⟨rfl, hq⟩
        have hL := Lib.hid ((hL.out.below hq).mono hq.size)
        have hB := Lib.hid ((hB.out.below hq).mono hq.size)
        have hM := Lib.hid ((hM.out.below hq).mono hq.size)
        have ch := Lib.hid (ch.out.trans (hq.mono ch.out.size))
        clear hq
        go_wp2
        go_ret
        exact ⟨rfl, ch.out⟩

end Go.Proofs.Ytaiomcjopgnfpaa

namespace Go.Proofs.Ytaiomcjopgnfpaa
open Go.RowKit

theorem ProgsRow.left {w : World} {B g : Nat} {c p q : List Ins} (h : ProgsRow w B (.slice (some ⟨g, 0, none⟩) 3 3) [c, p, q]) : ProgsRow w B (.slice (some ⟨g, 0, none⟩) 2 3) [c, p] := by
  refine ⟨by simp, .inr ⟨g, 0, 3, rfl, ?_, fun j l hj => ?_⟩⟩
  · obtain ⟨g', o', u, e, hg, _⟩ := h.get (k := 0) rfl
    simp only [Option.some.injEq, Addr.mk.injEq] at e; omega
  · have hj2 : [c, p, q][j]? = some l := by
      match j, hj with
      | 0, hj => exact hj
      | 1, hj => exact hj
    obtain ⟨g', o', u, e, hg, h1, h2⟩ := h.get hj2
    simp only [Option.some.injEq, Addr.mk.injEq, and_true] at e
    obtain ⟨rfl, rfl⟩ := e
    exact ⟨u, h1, h2⟩
theorem ProgsRow.right {w : World} {B g : Nat} {c p q : List Ins} (h : ProgsRow w B (.slice (some ⟨g, 0, none⟩) 3 3) [c, p, q]) : ProgsRow w B (.slice (some ⟨g, 1, none⟩) 2 2) [p, q] := by
  refine ⟨by simp, .inr ⟨g, 1, 2, rfl, ?_, fun j l hj => ?_⟩⟩
  · obtain ⟨g', o', u, e, hg, _⟩ := h.get (k := 0) rfl
    simp only [Option.some.injEq, Addr.mk.injEq] at e; omega
  · have hj2 : [c, p, q][j + 1]? = some l := by simpa using hj
    obtain ⟨g', o', u, e, hg, h1, h2⟩ := h.get hj2
    simp only [Option.some.injEq, Addr.mk.injEq, and_true] at e
    obtain ⟨rfl, rfl⟩ := e
    exact ⟨u, by rw [Nat.add_comm 1 j]; simpa using h1, h2⟩
theorem refPair_row (v u : Value) (p q : List Ins) (w : World) (hp : InsRow w w.heap.size v p) (hq : InsRow w w.heap.size u q) (hvp : validB p = true) (hvq : validB q = true) :
    Calls Try.prog 41 #[v, u] w fun e w' => ∃ v', e = .returned v' ∧ InsRow w' w'.heap.size v' (pairL p q) ∧ Below w.heap.size w w' :=
  (refPair_ok v u p q w hp hq hvp hvq).mono fun e w' ⟨v', h1, h2, h3⟩ => ⟨v', h1, h2.row (by
    have h4 := validB_len hvp; have h5 := validB_len hvq; have h6 := mostN_lt32 (validB_all hvq)
    have hl : (pairL p q).length = p.length + (cleanP q).length + 4 := by unfold pairL; simp; omega
    rw [hl, cleanP_length]; omega), h3⟩
theorem refIf_row (x v u : Value) (c p q : List Ins) (w : World) (hc : InsRow w w.heap.size x c) (hp : InsRow w w.heap.size v p) (hq : InsRow w w.heap.size u q) (hvc : validB c = true) (hvp : validB p = true) (hvq : validB q = true) :
    Calls Try.prog 43 #[x, v, u] w fun e w' => ∃ v', e = .returned v' ∧ InsRow w' w'.heap.size v' (ifL c p q) ∧ Below w.heap.size w w' :=
  (refIf_ok x v u c p q w hc hp hq hvc hvp hvq).mono fun e w' ⟨v', h1, h2, h3⟩ => ⟨v', h1, h2.row (by
    have h3 := validB_len hvc; have h4 := validB_len hvp; have h5 := validB_len hvq; have h6 := mostN_lt32 (validB_all hvq); have h7 := mostN_lt32 (validB_all hvp)
    have hl : (ifL c p q).length = c.length + (cleanP p).length + (cleanP q).length + 6 := by unfold ifL; simp; omega
    rw [hl, cleanP_length, cleanP_length]; omega), h3⟩
theorem refWhile_row (x v : Value) (c p : List Ins) (w : World) (hc : InsRow w w.heap.size x c) (hp : InsRow w w.heap.size v p) (hvc : validB c = true) (hvp : validB p = true) :
    Calls Try.prog 42 #[x, v] w fun e w' => ∃ v', e = .returned v' ∧ InsRow w' w'.heap.size v' (whileL c p) ∧ Below w.heap.size w w' :=
  (refWhile_ok x v c p w hc hp hvc hvp).mono fun e w' ⟨v', h1, h2, h3⟩ => ⟨v', h1, h2.row (by
    have h4 := validB_len hvc; have h5 := validB_len hvp; have h6 := mostN_lt32 (validB_all hvc); have h7 := mostN_lt32 (validB_all hvp)
    have hl0 : (whileH c p).length = (cleanP c).length + (cleanP p).length + 7 := by unfold whileH; simp; omega
    have hl : (whileL c p).length = (cleanP c).length + (cleanP p).length + 8 := by unfold whileL; simp [hl0]
    rw [hl, cleanP_length, cleanP_length]; omega), h3⟩
theorem allV2 (p q : List Ins) : allV [p, q] = (validB p && validB q) := by simp [allV]
theorem allV3 (c p q : List Ins) : allV [c, p, q] = (validB c && validB p && validB q) := by simp [allV, Bool.and_assoc]

set_option maxHeartbeats 8000000 in
theorem makes_t_ffx {w : World} (d : ByteArray) (hs : d.size ≤ 140737488355328) (ca : Option Addr) (cn cc : Nat) (pa : Option Addr) (pn pc : Nat) (qa : Option Addr) (qn qc : Nat) (c p q : List Ins) (hhC : InsRow w w.heap.size (.slice ca cn cc) c) (hhP : InsRow w w.heap.size (.slice pa pn pc) p) (hhQ : InsRow w w.heap.size (.slice qa qn qc) q) (HD : Hid (isTree d = true)) (HVp : Hid (validB p = false)) (HVc : Hid (validB c = false)) :
    Calls Try.prog 7 #[.string d, .slice ca cn cc, .slice pa pn pc, .slice qa qn qc] w fun e w' => e = .returned (.bool true) ∧ Below w.heap.size w w' := by
  have hC := Lib.hid hhC
  have hP := Lib.hid hhP
  have hQ := Lib.hid hhQ
  clear hhC hhP hhQ
  have kT := fun w => tvalid_at d hs true HD.out w
  have ch := Lib.hid (Below.refl w.heap.size w)
  go_enter Try.func7, Try.ntmps7
  go_wp2_with fail
  have hL0 := ProgsRow.lit (w := w) [.slice ca cn cc, .slice pa pn pc, .slice qa qn qc] [c, p, q] rfl (by simp) (fun j u l hu hl => match j, u, l, hu, hl with | 0, _, _, hu, hl => by cases hu; cases hl; exact hC.out | 1, _, _, hu, hl => by cases hu; cases hl; exact hP.out | 2, _, _, hu, hl => by cases hu; cases hl; exact hQ.out)
  obtain ⟨w1, hW⟩ : ∃ B, w.alloc (.cells #[.slice ca cn cc, .slice pa pn pc, .slice qa qn qc] 25) = B := ⟨_, rfl⟩
  rw [hW]
  have hq : Below w.heap.size w w1 := by rw [← hW]; exact (Below.refl _ _).alloc (Nat.le_refl _) _
  have hL := Lib.hid (show ProgsRow w1 w1.heap.size (.slice (some ⟨w.heap.size, 0, none⟩) 3 3) [c, p, q] by rw [← hW]; exact hL0)
  clear hW hL0
  have hC := Lib.hid ((hC.out.below hq).mono hq.size)
  have hP := Lib.hid ((hP.out.below hq).mono hq.size)
  have hQ := Lib.hid ((hQ.out.below hq).mono hq.size)
  have ch := Lib.hid (ch.out.trans (hq.mono ch.out.size))
  clear hq
  refine (copied_any _ [c, p, q] _ hL.out).mono ?_
  rintro e w2 ⟨vl, rfl, hWas, hq⟩
  have hC := Lib.hid ((hC.out.below hq).mono hq.size)
  have hP := Lib.hid ((hP.out.below hq).mono hq.size)
  have hQ := Lib.hid ((hQ.out.below hq).mono hq.size)
  have hL := Lib.hid ((hL.out.below hq).mono hq.size)
  have ch := Lib.hid (ch.out.trans (hq.mono ch.out.size))
  clear hq
  have hWas := Lib.hid hWas
  go_wp2_with fail
  refine (bConst_ok d hs HD.out _).mono ?_
  rintro e w3 ⟨aa, ac, rfl, hA, hq⟩
  have hC := Lib.hid ((hC.out.below hq).mono hq.size)
  have hP := Lib.hid ((hP.out.below hq).mono hq.size)
  have hQ := Lib.hid ((hQ.out.below hq).mono hq.size)
  have hL := Lib.hid ((hL.out.below hq).mono hq.size)
  have hWas := Lib.hid ((hWas.out.below hq).mono hq.size)
  have ch := Lib.hid (ch.out.trans (hq.mono ch.out.size))
  clear hq
  have hA := Lib.hid hA
  go_wp2_with fail
  refine (made_tb (bPair_any _ _ _ _ _ _ p q _ hP.out hQ.out)).mono ?_
  rintro e w4 ⟨vb, rfl, hB, hq⟩
  have hC := Lib.hid ((hC.out.below hq).mono hq.size)
  have hP := Lib.hid ((hP.out.below hq).mono hq.size)
  have hQ := Lib.hid ((hQ.out.below hq).mono hq.size)
  have hL := Lib.hid ((hL.out.below hq).mono hq.size)
  have hWas := Lib.hid ((hWas.out.below hq).mono hq.size)
  have hA := Lib.hid ((hA.out.below hq).mono hq.size)
  have ch := Lib.hid (ch.out.trans (hq.mono ch.out.size))
  clear hq
  have hB := Lib.hid hB
  go_wp2_with fail
  refine (made_tb (bIf_any _ _ _ _ _ _ _ _ _ c p q _ hC.out hP.out hQ.out)).mono ?_
  rintro e w5 ⟨vx, rfl, hX, hq⟩
  have hC := Lib.hid ((hC.out.below hq).mono hq.size)
  have hP := Lib.hid ((hP.out.below hq).mono hq.size)
  have hQ := Lib.hid ((hQ.out.below hq).mono hq.size)
  have hL := Lib.hid ((hL.out.below hq).mono hq.size)
  have hWas := Lib.hid ((hWas.out.below hq).mono hq.size)
  have hA := Lib.hid ((hA.out.below hq).mono hq.size)
  have hB := Lib.hid ((hB.out.below hq).mono hq.size)
  have ch := Lib.hid (ch.out.trans (hq.mono ch.out.size))
  clear hq
  have hX := Lib.hid hX
  go_wp2_with fail
  refine (made_tb (bWhile_any _ _ _ _ _ _ c p _ hC.out hP.out)).mono ?_
  rintro e w6 ⟨vy, rfl, hW, hq⟩
  have hC := Lib.hid ((hC.out.below hq).mono hq.size)
  have hP := Lib.hid ((hP.out.below hq).mono hq.size)
  have hQ := Lib.hid ((hQ.out.below hq).mono hq.size)
  have hL := Lib.hid ((hL.out.below hq).mono hq.size)
  have hWas := Lib.hid ((hWas.out.below hq).mono hq.size)
  have hA := Lib.hid ((hA.out.below hq).mono hq.size)
  have hB := Lib.hid ((hB.out.below hq).mono hq.size)
  have hX := Lib.hid ((hX.out.below hq).mono hq.size)
  have ch := Lib.hid (ch.out.trans (hq.mono ch.out.size))
  clear hq
  have hW := Lib.hid hW
  go_wp2_with fail
  refine (alike_self _ _ [c, p, q] _ hL.out hWas.out).mono ?_
  rintro e w7 ⟨rfl, hq⟩
  have hC := Lib.hid ((hC.out.below hq).mono hq.size)
  have hP := Lib.hid ((hP.out.below hq).mono hq.size)
  have hQ := Lib.hid ((hQ.out.below hq).mono hq.size)
  have hL := Lib.hid ((hL.out.below hq).mono hq.size)
  have hWas := Lib.hid ((hWas.out.below hq).mono hq.size)
  have hA := Lib.hid ((hA.out.below hq).mono hq.size)
  have hB := Lib.hid ((hB.out.below hq).mono hq.size)
  have hX := Lib.hid ((hX.out.below hq).mono hq.size)
  have hW := Lib.hid ((hW.out.below hq).mono hq.size)
  have ch := Lib.hid (ch.out.trans (hq.mono ch.out.size))
  clear hq
  clear hWas
  go_wp2_with fail
  refine (kT _).mono ?_
  rintro e w8 ⟨rfl, hq⟩
  have hC := Lib.hid ((hC.out.below hq).mono hq.size)
  have hP := Lib.hid ((hP.out.below hq).mono hq.size)
  have hQ := Lib.hid ((hQ.out.below hq).mono hq.size)
  have hL := Lib.hid ((hL.out.below hq).mono hq.size)
  have hA := Lib.hid ((hA.out.below hq).mono hq.size)
  have hB := Lib.hid ((hB.out.below hq).mono hq.size)
  have hX := Lib.hid ((hX.out.below hq).mono hq.size)
  have hW := Lib.hid ((hW.out.below hq).mono hq.size)
  have ch := Lib.hid (ch.out.trans (hq.mono ch.out.size))
  clear hq
  go_wp2_with fail
  refine (refConst_ok d hs _).mono ?_
  rintro e w9 ⟨ra, rc, rfl, hR, hq⟩
  have hC := Lib.hid ((hC.out.below hq).mono hq.size)
  have hP := Lib.hid ((hP.out.below hq).mono hq.size)
  have hQ := Lib.hid ((hQ.out.below hq).mono hq.size)
  have hL := Lib.hid ((hL.out.below hq).mono hq.size)
  have hA := Lib.hid ((hA.out.below hq).mono hq.size)
  have hB := Lib.hid ((hB.out.below hq).mono hq.size)
  have hX := Lib.hid ((hX.out.below hq).mono hq.size)
  have hW := Lib.hid ((hW.out.below hq).mono hq.size)
  have ch := Lib.hid (ch.out.trans (hq.mono ch.out.size))
  clear hq
  have hR := Lib.hid hR
  go_wp2_with fail
  refine (same_self hA.out hR.out).mono ?_
  rintro e w10 ⟨rfl, hq⟩
  have hC := Lib.hid ((hC.out.below hq).mono hq.size)
  have hP := Lib.hid ((hP.out.below hq).mono hq.size)
  have hQ := Lib.hid ((hQ.out.below hq).mono hq.size)
  have hL := Lib.hid ((hL.out.below hq).mono hq.size)
  have hA := Lib.hid ((hA.out.below hq).mono hq.size)
  have hB := Lib.hid ((hB.out.below hq).mono hq.size)
  have hX := Lib.hid ((hX.out.below hq).mono hq.size)
  have hW := Lib.hid ((hW.out.below hq).mono hq.size)
  have hR := Lib.hid ((hR.out.below hq).mono hq.size)
  have ch := Lib.hid (ch.out.trans (hq.mono ch.out.size))
  clear hq
  clear hA hR
  go_wp2_with fail
  refine (cvalid_at _ HVp.out hP.out).mono ?_
  rintro e w11 ⟨rfl, hq⟩
  have hC := Lib.hid ((hC.out.below hq).mono hq.size)
  have hP := Lib.hid ((hP.out.below hq).mono hq.size)
  have hQ := Lib.hid ((hQ.out.below hq).mono hq.size)
  have hL := Lib.hid ((hL.out.below hq).mono hq.size)
  have hB := Lib.hid ((hB.out.below hq).mono hq.size)
  have hX := Lib.hid ((hX.out.below hq).mono hq.size)
  have hW := Lib.hid ((hW.out.below hq).mono hq.size)
  have ch := Lib.hid (ch.out.trans (hq.mono ch.out.size))
  clear hq
  go_wp2_with fail
  refine (cvalid_at _ HVc.out hC.out).mono ?_
  rintro e w12 ⟨rfl, hq⟩
  have hC := Lib.hid ((hC.out.below hq).mono hq.size)
  have hP := Lib.hid ((hP.out.below hq).mono hq.size)
  have hQ := Lib.hid ((hQ.out.below hq).mono hq.size)
  have hL := Lib.hid ((hL.out.below hq).mono hq.size)
  have hB := Lib.hid ((hB.out.below hq).mono hq.size)
  have hX := Lib.hid ((hX.out.below hq).mono hq.size)
  have hW := Lib.hid ((hW.out.below hq).mono hq.size)
  have ch := Lib.hid (ch.out.trans (hq.mono ch.out.size))
  clear hq
  have m_two := Lib.hid (show allV [p, q] = true → [] = pairL p q from fun e => by simp [allV2, HVp.out, HVc.out] at e)
  go_wp2_with fail
  refine (due_at _ _ [p, q] (pairL p q) [] _ (dueF_pair p q) m_two.out (hL.out.right) (row_nil _ _)).mono ?_
  rintro e w13 ⟨rfl, hq⟩
  have hC := Lib.hid ((hC.out.below hq).mono hq.size)
  have hP := Lib.hid ((hP.out.below hq).mono hq.size)
  have hQ := Lib.hid ((hQ.out.below hq).mono hq.size)
  have hL := Lib.hid ((hL.out.below hq).mono hq.size)
  have hB := Lib.hid ((hB.out.below hq).mono hq.size)
  have hX := Lib.hid ((hX.out.below hq).mono hq.size)
  have hW := Lib.hid ((hW.out.below hq).mono hq.size)
  have ch := Lib.hid (ch.out.trans (hq.mono ch.out.size))
  clear hq
  go_wp2_with fail
  refine (told_at _ _ [p, q] (pairL p q) [] _ m_two.out hB.out (row_nil _ _)).mono ?_
  rintro e w14 ⟨rfl, hq⟩
  have hC := Lib.hid ((hC.out.below hq).mono hq.size)
  have hP := Lib.hid ((hP.out.below hq).mono hq.size)
  have hQ := Lib.hid ((hQ.out.below hq).mono hq.size)
  have hL := Lib.hid ((hL.out.below hq).mono hq.size)
  have hB := Lib.hid ((hB.out.below hq).mono hq.size)
  have hX := Lib.hid ((hX.out.below hq).mono hq.size)
  have hW := Lib.hid ((hW.out.below hq).mono hq.size)
  have ch := Lib.hid (ch.out.trans (hq.mono ch.out.size))
  clear hq
  clear hB m_two
  have m_three := Lib.hid (show allV [c, p, q] = true → [] = ifL c p q from fun e => by simp [allV3, HVp.out, HVc.out] at e)
  go_wp2_with fail
  refine (due_at _ _ [c, p, q] (ifL c p q) [] _ (dueF_if c p q) m_three.out (hL.out) (row_nil _ _)).mono ?_
  rintro e w15 ⟨rfl, hq⟩
  have hC := Lib.hid ((hC.out.below hq).mono hq.size)
  have hP := Lib.hid ((hP.out.below hq).mono hq.size)
  have hQ := Lib.hid ((hQ.out.below hq).mono hq.size)
  have hL := Lib.hid ((hL.out.below hq).mono hq.size)
  have hX := Lib.hid ((hX.out.below hq).mono hq.size)
  have hW := Lib.hid ((hW.out.below hq).mono hq.size)
  have ch := Lib.hid (ch.out.trans (hq.mono ch.out.size))
  clear hq
  go_wp2_with fail
  refine (told_at _ _ [c, p, q] (ifL c p q) [] _ m_three.out hX.out (row_nil _ _)).mono ?_
  rintro e w16 ⟨rfl, hq⟩
  have hC := Lib.hid ((hC.out.below hq).mono hq.size)
  have hP := Lib.hid ((hP.out.below hq).mono hq.size)
  have hQ := Lib.hid ((hQ.out.below hq).mono hq.size)
  have hL := Lib.hid ((hL.out.below hq).mono hq.size)
  have hX := Lib.hid ((hX.out.below hq).mono hq.size)
  have hW := Lib.hid ((hW.out.below hq).mono hq.size)
  have ch := Lib.hid (ch.out.trans (hq.mono ch.out.size))
  clear hq
  clear hX m_three
  have m_loop := Lib.hid (show allV [c, p] = true → [] = whileL c p from fun e => by simp [allV2, HVp.out, HVc.out] at e)
  go_wp2_with fail
  refine (due_at _ _ [c, p] (whileL c p) [] _ (dueF_while c p) m_loop.out (hL.out.left) (row_nil _ _)).mono ?_
  rintro e w17 ⟨rfl, hq⟩
  have hC := Lib.hid ((hC.out.below hq).mono hq.size)
  have hP := Lib.hid ((hP.out.below hq).mono hq.size)
  have hQ := Lib.hid ((hQ.out.below hq).mono hq.size)
  have hL := Lib.hid ((hL.out.below hq).mono hq.size)
  have hW := Lib.hid ((hW.out.below hq).mono hq.size)
  have ch := Lib.hid (ch.out.trans (hq.mono ch.out.size))
  clear hq
  go_wp2_with fail
  refine (told_at _ _ [c, p] (whileL c p) [] _ m_loop.out hW.out (row_nil _ _)).mono ?_
  rintro e w18 ⟨rfl, hq⟩
  have hC := Lib.hid ((hC.out.below hq).mono hq.size)
  have hP := Lib.hid ((hP.out.below hq).mono hq.size)
  have hQ := Lib.hid ((hQ.out.below hq).mono hq.size)
  have hL := Lib.hid ((hL.out.below hq).mono hq.size)
  have hW := Lib.hid ((hW.out.below hq).mono hq.size)
  have ch := Lib.hid (ch.out.trans (hq.mono ch.out.size))
  clear hq
  clear hW m_loop
  go_wp2_with fail
  refine (awake_any _).mono ?_
  rintro e w19 ⟨rfl, hq⟩
  have hC := Lib.hid ((hC.out.below hq).mono hq.size)
  have hP := Lib.hid ((hP.out.below hq).mono hq.size)
  have hQ := Lib.hid ((hQ.out.below hq).mono hq.size)
  have hL := Lib.hid ((hL.out.below hq).mono hq.size)
  have ch := Lib.hid (ch.out.trans (hq.mono ch.out.size))
  clear hq
  go_wp2
  go_ret
  exact ⟨rfl, ch.out⟩

set_option maxHeartbeats 8000000 in
theorem makes_t_ftx {w : World} (d : ByteArray) (hs : d.size ≤ 140737488355328) (ca : Option Addr) (cn cc : Nat) (pa : Option Addr) (pn pc : Nat) (qa : Option Addr) (qn qc : Nat) (c p q : List Ins) (hhC : InsRow w w.heap.size (.slice ca cn cc) c) (hhP : InsRow w w.heap.size (.slice pa pn pc) p) (hhQ : InsRow w w.heap.size (.slice qa qn qc) q) (HD : Hid (isTree d = true)) (HVp : Hid (validB p = false)) (HVc : Hid (validB c = true)) :
    Calls Try.prog 7 #[.string d, .slice ca cn cc, .slice pa pn pc, .slice qa qn qc] w fun e w' => e = .returned (.bool true) ∧ Below w.heap.size w w' := by
  have hC := Lib.hid hhC
  have hP := Lib.hid hhP
  have hQ := Lib.hid hhQ
  clear hhC hhP hhQ
  have kT := fun w => tvalid_at d hs true HD.out w
  have ch := Lib.hid (Below.refl w.heap.size w)
  go_enter Try.func7, Try.ntmps7
  go_wp2_with fail
  have hL0 := ProgsRow.lit (w := w) [.slice ca cn cc, .slice pa pn pc, .slice qa qn qc] [c, p, q] rfl (by simp) (fun j u l hu hl => match j, u, l, hu, hl with | 0, _, _, hu, hl => by cases hu; cases hl; exact hC.out | 1, _, _, hu, hl => by cases hu; cases hl; exact hP.out | 2, _, _, hu, hl => by cases hu; cases hl; exact hQ.out)
  obtain ⟨w1, hW⟩ : ∃ B, w.alloc (.cells #[.slice ca cn cc, .slice pa pn pc, .slice qa qn qc] 25) = B := ⟨_, rfl⟩
  rw [hW]
  have hq : Below w.heap.size w w1 := by rw [← hW]; exact (Below.refl _ _).alloc (Nat.le_refl _) _
  have hL := Lib.hid (show ProgsRow w1 w1.heap.size (.slice (some ⟨w.heap.size, 0, none⟩) 3 3) [c, p, q] by rw [← hW]; exact hL0)
  clear hW hL0
  have hC := Lib.hid ((hC.out.below hq).mono hq.size)
  have hP := Lib.hid ((hP.out.below hq).mono hq.size)
  have hQ := Lib.hid ((hQ.out.below hq).mono hq.size)
  have ch := Lib.hid (ch.out.trans (hq.mono ch.out.size))
  clear hq
  refine (copied_any _ [c, p, q] _ hL.out).mono ?_
  rintro e w2 ⟨vl, rfl, hWas, hq⟩
  have hC := Lib.hid ((hC.out.below hq).mono hq.size)
  have hP := Lib.hid ((hP.out.below hq).mono hq.size)
  have hQ := Lib.hid ((hQ.out.below hq).mono hq.size)
  have hL := Lib.hid ((hL.out.below hq).mono hq.size)
  have ch := Lib.hid (ch.out.trans (hq.mono ch.out.size))
  clear hq
  have hWas := Lib.hid hWas
  go_wp2_with fail
  refine (bConst_ok d hs HD.out _).mono ?_
  rintro e w3 ⟨aa, ac, rfl, hA, hq⟩
  have hC := Lib.hid ((hC.out.below hq).mono hq.size)
  have hP := Lib.hid ((hP.out.below hq).mono hq.size)
  have hQ := Lib.hid ((hQ.out.below hq).mono hq.size)
  have hL := Lib.hid ((hL.out.below hq).mono hq.size)
  have hWas := Lib.hid ((hWas.out.below hq).mono hq.size)
  have ch := Lib.hid (ch.out.trans (hq.mono ch.out.size))
  clear hq
  have hA := Lib.hid hA
  go_wp2_with fail
  refine (made_tb (bPair_any _ _ _ _ _ _ p q _ hP.out hQ.out)).mono ?_
  rintro e w4 ⟨vb, rfl, hB, hq⟩
  have hC := Lib.hid ((hC.out.below hq).mono hq.size)
  have hP := Lib.hid ((hP.out.below hq).mono hq.size)
  have hQ := Lib.hid ((hQ.out.below hq).mono hq.size)
  have hL := Lib.hid ((hL.out.below hq).mono hq.size)
  have hWas := Lib.hid ((hWas.out.below hq).mono hq.size)
  have hA := Lib.hid ((hA.out.below hq).mono hq.size)
  have ch := Lib.hid (ch.out.trans (hq.mono ch.out.size))
  clear hq
  have hB := Lib.hid hB
  go_wp2_with fail
  refine (made_tb (bIf_any _ _ _ _ _ _ _ _ _ c p q _ hC.out hP.out hQ.out)).mono ?_
  rintro e w5 ⟨vx, rfl, hX, hq⟩
  have hC := Lib.hid ((hC.out.below hq).mono hq.size)
  have hP := Lib.hid ((hP.out.below hq).mono hq.size)
  have hQ := Lib.hid ((hQ.out.below hq).mono hq.size)
  have hL := Lib.hid ((hL.out.below hq).mono hq.size)
  have hWas := Lib.hid ((hWas.out.below hq).mono hq.size)
  have hA := Lib.hid ((hA.out.below hq).mono hq.size)
  have hB := Lib.hid ((hB.out.below hq).mono hq.size)
  have ch := Lib.hid (ch.out.trans (hq.mono ch.out.size))
  clear hq
  have hX := Lib.hid hX
  go_wp2_with fail
  refine (made_tb (bWhile_any _ _ _ _ _ _ c p _ hC.out hP.out)).mono ?_
  rintro e w6 ⟨vy, rfl, hW, hq⟩
  have hC := Lib.hid ((hC.out.below hq).mono hq.size)
  have hP := Lib.hid ((hP.out.below hq).mono hq.size)
  have hQ := Lib.hid ((hQ.out.below hq).mono hq.size)
  have hL := Lib.hid ((hL.out.below hq).mono hq.size)
  have hWas := Lib.hid ((hWas.out.below hq).mono hq.size)
  have hA := Lib.hid ((hA.out.below hq).mono hq.size)
  have hB := Lib.hid ((hB.out.below hq).mono hq.size)
  have hX := Lib.hid ((hX.out.below hq).mono hq.size)
  have ch := Lib.hid (ch.out.trans (hq.mono ch.out.size))
  clear hq
  have hW := Lib.hid hW
  go_wp2_with fail
  refine (alike_self _ _ [c, p, q] _ hL.out hWas.out).mono ?_
  rintro e w7 ⟨rfl, hq⟩
  have hC := Lib.hid ((hC.out.below hq).mono hq.size)
  have hP := Lib.hid ((hP.out.below hq).mono hq.size)
  have hQ := Lib.hid ((hQ.out.below hq).mono hq.size)
  have hL := Lib.hid ((hL.out.below hq).mono hq.size)
  have hWas := Lib.hid ((hWas.out.below hq).mono hq.size)
  have hA := Lib.hid ((hA.out.below hq).mono hq.size)
  have hB := Lib.hid ((hB.out.below hq).mono hq.size)
  have hX := Lib.hid ((hX.out.below hq).mono hq.size)
  have hW := Lib.hid ((hW.out.below hq).mono hq.size)
  have ch := Lib.hid (ch.out.trans (hq.mono ch.out.size))
  clear hq
  clear hWas
  go_wp2_with fail
  refine (kT _).mono ?_
  rintro e w8 ⟨rfl, hq⟩
  have hC := Lib.hid ((hC.out.below hq).mono hq.size)
  have hP := Lib.hid ((hP.out.below hq).mono hq.size)
  have hQ := Lib.hid ((hQ.out.below hq).mono hq.size)
  have hL := Lib.hid ((hL.out.below hq).mono hq.size)
  have hA := Lib.hid ((hA.out.below hq).mono hq.size)
  have hB := Lib.hid ((hB.out.below hq).mono hq.size)
  have hX := Lib.hid ((hX.out.below hq).mono hq.size)
  have hW := Lib.hid ((hW.out.below hq).mono hq.size)
  have ch := Lib.hid (ch.out.trans (hq.mono ch.out.size))
  clear hq
  go_wp2_with fail
  refine (refConst_ok d hs _).mono ?_
  rintro e w9 ⟨ra, rc, rfl, hR, hq⟩
  have hC := Lib.hid ((hC.out.below hq).mono hq.size)
  have hP := Lib.hid ((hP.out.below hq).mono hq.size)
  have hQ := Lib.hid ((hQ.out.below hq).mono hq.size)
  have hL := Lib.hid ((hL.out.below hq).mono hq.size)
  have hA := Lib.hid ((hA.out.below hq).mono hq.size)
  have hB := Lib.hid ((hB.out.below hq).mono hq.size)
  have hX := Lib.hid ((hX.out.below hq).mono hq.size)
  have hW := Lib.hid ((hW.out.below hq).mono hq.size)
  have ch := Lib.hid (ch.out.trans (hq.mono ch.out.size))
  clear hq
  have hR := Lib.hid hR
  go_wp2_with fail
  refine (same_self hA.out hR.out).mono ?_
  rintro e w10 ⟨rfl, hq⟩
  have hC := Lib.hid ((hC.out.below hq).mono hq.size)
  have hP := Lib.hid ((hP.out.below hq).mono hq.size)
  have hQ := Lib.hid ((hQ.out.below hq).mono hq.size)
  have hL := Lib.hid ((hL.out.below hq).mono hq.size)
  have hA := Lib.hid ((hA.out.below hq).mono hq.size)
  have hB := Lib.hid ((hB.out.below hq).mono hq.size)
  have hX := Lib.hid ((hX.out.below hq).mono hq.size)
  have hW := Lib.hid ((hW.out.below hq).mono hq.size)
  have hR := Lib.hid ((hR.out.below hq).mono hq.size)
  have ch := Lib.hid (ch.out.trans (hq.mono ch.out.size))
  clear hq
  clear hA hR
  go_wp2_with fail
  refine (cvalid_at _ HVp.out hP.out).mono ?_
  rintro e w11 ⟨rfl, hq⟩
  have hC := Lib.hid ((hC.out.below hq).mono hq.size)
  have hP := Lib.hid ((hP.out.below hq).mono hq.size)
  have hQ := Lib.hid ((hQ.out.below hq).mono hq.size)
  have hL := Lib.hid ((hL.out.below hq).mono hq.size)
  have hB := Lib.hid ((hB.out.below hq).mono hq.size)
  have hX := Lib.hid ((hX.out.below hq).mono hq.size)
  have hW := Lib.hid ((hW.out.below hq).mono hq.size)
  have ch := Lib.hid (ch.out.trans (hq.mono ch.out.size))
  clear hq
  go_wp2_with fail
  refine (cvalid_at _ HVc.out hC.out).mono ?_
  rintro e w12 ⟨rfl, hq⟩
  have hC := Lib.hid ((hC.out.below hq).mono hq.size)
  have hP := Lib.hid ((hP.out.below hq).mono hq.size)
  have hQ := Lib.hid ((hQ.out.below hq).mono hq.size)
  have hL := Lib.hid ((hL.out.below hq).mono hq.size)
  have hB := Lib.hid ((hB.out.below hq).mono hq.size)
  have hX := Lib.hid ((hX.out.below hq).mono hq.size)
  have hW := Lib.hid ((hW.out.below hq).mono hq.size)
  have ch := Lib.hid (ch.out.trans (hq.mono ch.out.size))
  clear hq
  go_wp2_with fail
  refine (cvalid_at _ HVp.out hP.out).mono ?_
  rintro e w13 ⟨rfl, hq⟩
  have hC := Lib.hid ((hC.out.below hq).mono hq.size)
  have hP := Lib.hid ((hP.out.below hq).mono hq.size)
  have hQ := Lib.hid ((hQ.out.below hq).mono hq.size)
  have hL := Lib.hid ((hL.out.below hq).mono hq.size)
  have hB := Lib.hid ((hB.out.below hq).mono hq.size)
  have hX := Lib.hid ((hX.out.below hq).mono hq.size)
  have hW := Lib.hid ((hW.out.below hq).mono hq.size)
  have ch := Lib.hid (ch.out.trans (hq.mono ch.out.size))
  clear hq
  have m_two := Lib.hid (show allV [p, q] = true → [] = pairL p q from fun e => by simp [allV2, HVp.out, HVc.out] at e)
  go_wp2_with fail
  refine (due_at _ _ [p, q] (pairL p q) [] _ (dueF_pair p q) m_two.out (hL.out.right) (row_nil _ _)).mono ?_
  rintro e w14 ⟨rfl, hq⟩
  have hC := Lib.hid ((hC.out.below hq).mono hq.size)
  have hP := Lib.hid ((hP.out.below hq).mono hq.size)
  have hQ := Lib.hid ((hQ.out.below hq).mono hq.size)
  have hL := Lib.hid ((hL.out.below hq).mono hq.size)
  have hB := Lib.hid ((hB.out.below hq).mono hq.size)
  have hX := Lib.hid ((hX.out.below hq).mono hq.size)
  have hW := Lib.hid ((hW.out.below hq).mono hq.size)
  have ch := Lib.hid (ch.out.trans (hq.mono ch.out.size))
  clear hq
  go_wp2_with fail
  refine (told_at _ _ [p, q] (pairL p q) [] _ m_two.out hB.out (row_nil _ _)).mono ?_
  rintro e w15 ⟨rfl, hq⟩
  have hC := Lib.hid ((hC.out.below hq).mono hq.size)
  have hP := Lib.hid ((hP.out.below hq).mono hq.size)
  have hQ := Lib.hid ((hQ.out.below hq).mono hq.size)
  have hL := Lib.hid ((hL.out.below hq).mono hq.size)
  have hB := Lib.hid ((hB.out.below hq).mono hq.size)
  have hX := Lib.hid ((hX.out.below hq).mono hq.size)
  have hW := Lib.hid ((hW.out.below hq).mono hq.size)
  have ch := Lib.hid (ch.out.trans (hq.mono ch.out.size))
  clear hq
  clear hB m_two
  have m_three := Lib.hid (show allV [c, p, q] = true → [] = ifL c p q from fun e => by simp [allV3, HVp.out, HVc.out] at e)
  go_wp2_with fail
  refine (due_at _ _ [c, p, q] (ifL c p q) [] _ (dueF_if c p q) m_three.out (hL.out) (row_nil _ _)).mono ?_
  rintro e w16 ⟨rfl, hq⟩
  have hC := Lib.hid ((hC.out.below hq).mono hq.size)
  have hP := Lib.hid ((hP.out.below hq).mono hq.size)
  have hQ := Lib.hid ((hQ.out.below hq).mono hq.size)
  have hL := Lib.hid ((hL.out.below hq).mono hq.size)
  have hX := Lib.hid ((hX.out.below hq).mono hq.size)
  have hW := Lib.hid ((hW.out.below hq).mono hq.size)
  have ch := Lib.hid (ch.out.trans (hq.mono ch.out.size))
  clear hq
  go_wp2_with fail
  refine (told_at _ _ [c, p, q] (ifL c p q) [] _ m_three.out hX.out (row_nil _ _)).mono ?_
  rintro e w17 ⟨rfl, hq⟩
  have hC := Lib.hid ((hC.out.below hq).mono hq.size)
  have hP := Lib.hid ((hP.out.below hq).mono hq.size)
  have hQ := Lib.hid ((hQ.out.below hq).mono hq.size)
  have hL := Lib.hid ((hL.out.below hq).mono hq.size)
  have hX := Lib.hid ((hX.out.below hq).mono hq.size)
  have hW := Lib.hid ((hW.out.below hq).mono hq.size)
  have ch := Lib.hid (ch.out.trans (hq.mono ch.out.size))
  clear hq
  clear hX m_three
  have m_loop := Lib.hid (show allV [c, p] = true → [] = whileL c p from fun e => by simp [allV2, HVp.out, HVc.out] at e)
  go_wp2_with fail
  refine (due_at _ _ [c, p] (whileL c p) [] _ (dueF_while c p) m_loop.out (hL.out.left) (row_nil _ _)).mono ?_
  rintro e w18 ⟨rfl, hq⟩
  have hC := Lib.hid ((hC.out.below hq).mono hq.size)
  have hP := Lib.hid ((hP.out.below hq).mono hq.size)
  have hQ := Lib.hid ((hQ.out.below hq).mono hq.size)
  have hL := Lib.hid ((hL.out.below hq).mono hq.size)
  have hW := Lib.hid ((hW.out.below hq).mono hq.size)
  have ch := Lib.hid (ch.out.trans (hq.mono ch.out.size))
  clear hq
  go_wp2_with fail
  refine (told_at _ _ [c, p] (whileL c p) [] _ m_loop.out hW.out (row_nil _ _)).mono ?_
  rintro e w19 ⟨rfl, hq⟩
  have hC := Lib.hid ((hC.out.below hq).mono hq.size)
  have hP := Lib.hid ((hP.out.below hq).mono hq.size)
  have hQ := Lib.hid ((hQ.out.below hq).mono hq.size)
  have hL := Lib.hid ((hL.out.below hq).mono hq.size)
  have hW := Lib.hid ((hW.out.below hq).mono hq.size)
  have ch := Lib.hid (ch.out.trans (hq.mono ch.out.size))
  clear hq
  clear hW m_loop
  go_wp2_with fail
  refine (awake_any _).mono ?_
  rintro e w20 ⟨rfl, hq⟩
  have hC := Lib.hid ((hC.out.below hq).mono hq.size)
  have hP := Lib.hid ((hP.out.below hq).mono hq.size)
  have hQ := Lib.hid ((hQ.out.below hq).mono hq.size)
  have hL := Lib.hid ((hL.out.below hq).mono hq.size)
  have ch := Lib.hid (ch.out.trans (hq.mono ch.out.size))
  clear hq
  go_wp2
  go_ret
  exact ⟨rfl, ch.out⟩

set_option maxHeartbeats 8000000 in
theorem makes_t_tff {w : World} (d : ByteArray) (hs : d.size ≤ 140737488355328) (ca : Option Addr) (cn cc : Nat) (pa : Option Addr) (pn pc : Nat) (qa : Option Addr) (qn qc : Nat) (c p q : List Ins) (hhC : InsRow w w.heap.size (.slice ca cn cc) c) (hhP : InsRow w w.heap.size (.slice pa pn pc) p) (hhQ : InsRow w w.heap.size (.slice qa qn qc) q) (HD : Hid (isTree d = true)) (HVp : Hid (validB p = true)) (HVc : Hid (validB c = false)) (HVq : Hid (validB q = false)) :
    Calls Try.prog 7 #[.string d, .slice ca cn cc, .slice pa pn pc, .slice qa qn qc] w fun e w' => e = .returned (.bool true) ∧ Below w.heap.size w w' := by
  have hC := Lib.hid hhC
  have hP := Lib.hid hhP
  have hQ := Lib.hid hhQ
  clear hhC hhP hhQ
  have kT := fun w => tvalid_at d hs true HD.out w
  have ch := Lib.hid (Below.refl w.heap.size w)
  go_enter Try.func7, Try.ntmps7
  go_wp2_with fail
  have hL0 := ProgsRow.lit (w := w) [.slice ca cn cc, .slice pa pn pc, .slice qa qn qc] [c, p, q] rfl (by simp) (fun j u l hu hl => match j, u, l, hu, hl with | 0, _, _, hu, hl => by cases hu; cases hl; exact hC.out | 1, _, _, hu, hl => by cases hu; cases hl; exact hP.out | 2, _, _, hu, hl => by cases hu; cases hl; exact hQ.out)
  obtain ⟨w1, hW⟩ : ∃ B, w.alloc (.cells #[.slice ca cn cc, .slice pa pn pc, .slice qa qn qc] 25) = B := ⟨_, rfl⟩
  rw [hW]
  have hq : Below w.heap.size w w1 := by rw [← hW]; exact (Below.refl _ _).alloc (Nat.le_refl _) _
  have hL := Lib.hid (show ProgsRow w1 w1.heap.size (.slice (some ⟨w.heap.size, 0, none⟩) 3 3) [c, p, q] by rw [← hW]; exact hL0)
  clear hW hL0
  have hC := Lib.hid ((hC.out.below hq).mono hq.size)
  have hP := Lib.hid ((hP.out.below hq).mono hq.size)
  have hQ := Lib.hid ((hQ.out.below hq).mono hq.size)
  have ch := Lib.hid (ch.out.trans (hq.mono ch.out.size))
  clear hq
  refine (copied_any _ [c, p, q] _ hL.out).mono ?_
  rintro e w2 ⟨vl, rfl, hWas, hq⟩
  have hC := Lib.hid ((hC.out.below hq).mono hq.size)
  have hP := Lib.hid ((hP.out.below hq).mono hq.size)
  have hQ := Lib.hid ((hQ.out.below hq).mono hq.size)
  have hL := Lib.hid ((hL.out.below hq).mono hq.size)
  have ch := Lib.hid (ch.out.trans (hq.mono ch.out.size))
  clear hq
  have hWas := Lib.hid hWas
  go_wp2_with fail
  refine (bConst_ok d hs HD.out _).mono ?_
  rintro e w3 ⟨aa, ac, rfl, hA, hq⟩
  have hC := Lib.hid ((hC.out.below hq).mono hq.size)
  have hP := Lib.hid ((hP.out.below hq).mono hq.size)
  have hQ := Lib.hid ((hQ.out.below hq).mono hq.size)
  have hL := Lib.hid ((hL.out.below hq).mono hq.size)
  have hWas := Lib.hid ((hWas.out.below hq).mono hq.size)
  have ch := Lib.hid (ch.out.trans (hq.mono ch.out.size))
  clear hq
  have hA := Lib.hid hA
  go_wp2_with fail
  refine (made_tb (bPair_any _ _ _ _ _ _ p q _ hP.out hQ.out)).mono ?_
  rintro e w4 ⟨vb, rfl, hB, hq⟩
  have hC := Lib.hid ((hC.out.below hq).mono hq.size)
  have hP := Lib.hid ((hP.out.below hq).mono hq.size)
  have hQ := Lib.hid ((hQ.out.below hq).mono hq.size)
  have hL := Lib.hid ((hL.out.below hq).mono hq.size)
  have hWas := Lib.hid ((hWas.out.below hq).mono hq.size)
  have hA := Lib.hid ((hA.out.below hq).mono hq.size)
  have ch := Lib.hid (ch.out.trans (hq.mono ch.out.size))
  clear hq
  have hB := Lib.hid hB
  go_wp2_with fail
  refine (made_tb (bIf_any _ _ _ _ _ _ _ _ _ c p q _ hC.out hP.out hQ.out)).mono ?_
  rintro e w5 ⟨vx, rfl, hX, hq⟩
  have hC := Lib.hid ((hC.out.below hq).mono hq.size)
  have hP := Lib.hid ((hP.out.below hq).mono hq.size)
  have hQ := Lib.hid ((hQ.out.below hq).mono hq.size)
  have hL := Lib.hid ((hL.out.below hq).mono hq.size)
  have hWas := Lib.hid ((hWas.out.below hq).mono hq.size)
  have hA := Lib.hid ((hA.out.below hq).mono hq.size)
  have hB := Lib.hid ((hB.out.below hq).mono hq.size)
  have ch := Lib.hid (ch.out.trans (hq.mono ch.out.size))
  clear hq
  have hX := Lib.hid hX
  go_wp2_with fail
  refine (made_tb (bWhile_any _ _ _ _ _ _ c p _ hC.out hP.out)).mono ?_
  rintro e w6 ⟨vy, rfl, hW, hq⟩
  have hC := Lib.hid ((hC.out.below hq).mono hq.size)
  have hP := Lib.hid ((hP.out.below hq).mono hq.size)
  have hQ := Lib.hid ((hQ.out.below hq).mono hq.size)
  have hL := Lib.hid ((hL.out.below hq).mono hq.size)
  have hWas := Lib.hid ((hWas.out.below hq).mono hq.size)
  have hA := Lib.hid ((hA.out.below hq).mono hq.size)
  have hB := Lib.hid ((hB.out.below hq).mono hq.size)
  have hX := Lib.hid ((hX.out.below hq).mono hq.size)
  have ch := Lib.hid (ch.out.trans (hq.mono ch.out.size))
  clear hq
  have hW := Lib.hid hW
  go_wp2_with fail
  refine (alike_self _ _ [c, p, q] _ hL.out hWas.out).mono ?_
  rintro e w7 ⟨rfl, hq⟩
  have hC := Lib.hid ((hC.out.below hq).mono hq.size)
  have hP := Lib.hid ((hP.out.below hq).mono hq.size)
  have hQ := Lib.hid ((hQ.out.below hq).mono hq.size)
  have hL := Lib.hid ((hL.out.below hq).mono hq.size)
  have hWas := Lib.hid ((hWas.out.below hq).mono hq.size)
  have hA := Lib.hid ((hA.out.below hq).mono hq.size)
  have hB := Lib.hid ((hB.out.below hq).mono hq.size)
  have hX := Lib.hid ((hX.out.below hq).mono hq.size)
  have hW := Lib.hid ((hW.out.below hq).mono hq.size)
  have ch := Lib.hid (ch.out.trans (hq.mono ch.out.size))
  clear hq
  clear hWas
  go_wp2_with fail
  refine (kT _).mono ?_
  rintro e w8 ⟨rfl, hq⟩
  have hC := Lib.hid ((hC.out.below hq).mono hq.size)
  have hP := Lib.hid ((hP.out.below hq).mono hq.size)
  have hQ := Lib.hid ((hQ.out.below hq).mono hq.size)
  have hL := Lib.hid ((hL.out.below hq).mono hq.size)
  have hA := Lib.hid ((hA.out.below hq).mono hq.size)
  have hB := Lib.hid ((hB.out.below hq).mono hq.size)
  have hX := Lib.hid ((hX.out.below hq).mono hq.size)
  have hW := Lib.hid ((hW.out.below hq).mono hq.size)
  have ch := Lib.hid (ch.out.trans (hq.mono ch.out.size))
  clear hq
  go_wp2_with fail
  refine (refConst_ok d hs _).mono ?_
  rintro e w9 ⟨ra, rc, rfl, hR, hq⟩
  have hC := Lib.hid ((hC.out.below hq).mono hq.size)
  have hP := Lib.hid ((hP.out.below hq).mono hq.size)
  have hQ := Lib.hid ((hQ.out.below hq).mono hq.size)
  have hL := Lib.hid ((hL.out.below hq).mono hq.size)
  have hA := Lib.hid ((hA.out.below hq).mono hq.size)
  have hB := Lib.hid ((hB.out.below hq).mono hq.size)
  have hX := Lib.hid ((hX.out.below hq).mono hq.size)
  have hW := Lib.hid ((hW.out.below hq).mono hq.size)
  have ch := Lib.hid (ch.out.trans (hq.mono ch.out.size))
  clear hq
  have hR := Lib.hid hR
  go_wp2_with fail
  refine (same_self hA.out hR.out).mono ?_
  rintro e w10 ⟨rfl, hq⟩
  have hC := Lib.hid ((hC.out.below hq).mono hq.size)
  have hP := Lib.hid ((hP.out.below hq).mono hq.size)
  have hQ := Lib.hid ((hQ.out.below hq).mono hq.size)
  have hL := Lib.hid ((hL.out.below hq).mono hq.size)
  have hA := Lib.hid ((hA.out.below hq).mono hq.size)
  have hB := Lib.hid ((hB.out.below hq).mono hq.size)
  have hX := Lib.hid ((hX.out.below hq).mono hq.size)
  have hW := Lib.hid ((hW.out.below hq).mono hq.size)
  have hR := Lib.hid ((hR.out.below hq).mono hq.size)
  have ch := Lib.hid (ch.out.trans (hq.mono ch.out.size))
  clear hq
  clear hA hR
  go_wp2_with fail
  refine (cvalid_at _ HVp.out hP.out).mono ?_
  rintro e w11 ⟨rfl, hq⟩
  have hC := Lib.hid ((hC.out.below hq).mono hq.size)
  have hP := Lib.hid ((hP.out.below hq).mono hq.size)
  have hQ := Lib.hid ((hQ.out.below hq).mono hq.size)
  have hL := Lib.hid ((hL.out.below hq).mono hq.size)
  have hB := Lib.hid ((hB.out.below hq).mono hq.size)
  have hX := Lib.hid ((hX.out.below hq).mono hq.size)
  have hW := Lib.hid ((hW.out.below hq).mono hq.size)
  have ch := Lib.hid (ch.out.trans (hq.mono ch.out.size))
  clear hq
  go_wp2_with fail
  refine (cvalid_at _ HVq.out hQ.out).mono ?_
  rintro e w12 ⟨rfl, hq⟩
  have hC := Lib.hid ((hC.out.below hq).mono hq.size)
  have hP := Lib.hid ((hP.out.below hq).mono hq.size)
  have hQ := Lib.hid ((hQ.out.below hq).mono hq.size)
  have hL := Lib.hid ((hL.out.below hq).mono hq.size)
  have hB := Lib.hid ((hB.out.below hq).mono hq.size)
  have hX := Lib.hid ((hX.out.below hq).mono hq.size)
  have hW := Lib.hid ((hW.out.below hq).mono hq.size)
  have ch := Lib.hid (ch.out.trans (hq.mono ch.out.size))
  clear hq
  go_wp2_with fail
  refine (cvalid_at _ HVc.out hC.out).mono ?_
  rintro e w13 ⟨rfl, hq⟩
  have hC := Lib.hid ((hC.out.below hq).mono hq.size)
  have hP := Lib.hid ((hP.out.below hq).mono hq.size)
  have hQ := Lib.hid ((hQ.out.below hq).mono hq.size)
  have hL := Lib.hid ((hL.out.below hq).mono hq.size)
  have hB := Lib.hid ((hB.out.below hq).mono hq.size)
  have hX := Lib.hid ((hX.out.below hq).mono hq.size)
  have hW := Lib.hid ((hW.out.below hq).mono hq.size)
  have ch := Lib.hid (ch.out.trans (hq.mono ch.out.size))
  clear hq
  have m_two := Lib.hid (show allV [p, q] = true → [] = pairL p q from fun e => by simp [allV2, HVp.out, HVc.out, HVq.out] at e)
  go_wp2_with fail
  refine (due_at _ _ [p, q] (pairL p q) [] _ (dueF_pair p q) m_two.out (hL.out.right) (row_nil _ _)).mono ?_
  rintro e w14 ⟨rfl, hq⟩
  have hC := Lib.hid ((hC.out.below hq).mono hq.size)
  have hP := Lib.hid ((hP.out.below hq).mono hq.size)
  have hQ := Lib.hid ((hQ.out.below hq).mono hq.size)
  have hL := Lib.hid ((hL.out.below hq).mono hq.size)
  have hB := Lib.hid ((hB.out.below hq).mono hq.size)
  have hX := Lib.hid ((hX.out.below hq).mono hq.size)
  have hW := Lib.hid ((hW.out.below hq).mono hq.size)
  have ch := Lib.hid (ch.out.trans (hq.mono ch.out.size))
  clear hq
  go_wp2_with fail
  refine (told_at _ _ [p, q] (pairL p q) [] _ m_two.out hB.out (row_nil _ _)).mono ?_
  rintro e w15 ⟨rfl, hq⟩
  have hC := Lib.hid ((hC.out.below hq).mono hq.size)
  have hP := Lib.hid ((hP.out.below hq).mono hq.size)
  have hQ := Lib.hid ((hQ.out.below hq).mono hq.size)
  have hL := Lib.hid ((hL.out.below hq).mono hq.size)
  have hB := Lib.hid ((hB.out.below hq).mono hq.size)
  have hX := Lib.hid ((hX.out.below hq).mono hq.size)
  have hW := Lib.hid ((hW.out.below hq).mono hq.size)
  have ch := Lib.hid (ch.out.trans (hq.mono ch.out.size))
  clear hq
  clear hB m_two
  have m_three := Lib.hid (show allV [c, p, q] = true → [] = ifL c p q from fun e => by simp [allV3, HVp.out, HVc.out, HVq.out] at e)
  go_wp2_with fail
  refine (due_at _ _ [c, p, q] (ifL c p q) [] _ (dueF_if c p q) m_three.out (hL.out) (row_nil _ _)).mono ?_
  rintro e w16 ⟨rfl, hq⟩
  have hC := Lib.hid ((hC.out.below hq).mono hq.size)
  have hP := Lib.hid ((hP.out.below hq).mono hq.size)
  have hQ := Lib.hid ((hQ.out.below hq).mono hq.size)
  have hL := Lib.hid ((hL.out.below hq).mono hq.size)
  have hX := Lib.hid ((hX.out.below hq).mono hq.size)
  have hW := Lib.hid ((hW.out.below hq).mono hq.size)
  have ch := Lib.hid (ch.out.trans (hq.mono ch.out.size))
  clear hq
  go_wp2_with fail
  refine (told_at _ _ [c, p, q] (ifL c p q) [] _ m_three.out hX.out (row_nil _ _)).mono ?_
  rintro e w17 ⟨rfl, hq⟩
  have hC := Lib.hid ((hC.out.below hq).mono hq.size)
  have hP := Lib.hid ((hP.out.below hq).mono hq.size)
  have hQ := Lib.hid ((hQ.out.below hq).mono hq.size)
  have hL := Lib.hid ((hL.out.below hq).mono hq.size)
  have hX := Lib.hid ((hX.out.below hq).mono hq.size)
  have hW := Lib.hid ((hW.out.below hq).mono hq.size)
  have ch := Lib.hid (ch.out.trans (hq.mono ch.out.size))
  clear hq
  clear hX m_three
  have m_loop := Lib.hid (show allV [c, p] = true → [] = whileL c p from fun e => by simp [allV2, HVp.out, HVc.out, HVq.out] at e)
  go_wp2_with fail
  refine (due_at _ _ [c, p] (whileL c p) [] _ (dueF_while c p) m_loop.out (hL.out.left) (row_nil _ _)).mono ?_
  rintro e w18 ⟨rfl, hq⟩
  have hC := Lib.hid ((hC.out.below hq).mono hq.size)
  have hP := Lib.hid ((hP.out.below hq).mono hq.size)
  have hQ := Lib.hid ((hQ.out.below hq).mono hq.size)
  have hL := Lib.hid ((hL.out.below hq).mono hq.size)
  have hW := Lib.hid ((hW.out.below hq).mono hq.size)
  have ch := Lib.hid (ch.out.trans (hq.mono ch.out.size))
  clear hq
  go_wp2_with fail
  refine (told_at _ _ [c, p] (whileL c p) [] _ m_loop.out hW.out (row_nil _ _)).mono ?_
  rintro e w19 ⟨rfl, hq⟩
  have hC := Lib.hid ((hC.out.below hq).mono hq.size)
  have hP := Lib.hid ((hP.out.below hq).mono hq.size)
  have hQ := Lib.hid ((hQ.out.below hq).mono hq.size)
  have hL := Lib.hid ((hL.out.below hq).mono hq.size)
  have hW := Lib.hid ((hW.out.below hq).mono hq.size)
  have ch := Lib.hid (ch.out.trans (hq.mono ch.out.size))
  clear hq
  clear hW m_loop
  go_wp2_with fail
  refine (awake_any _).mono ?_
  rintro e w20 ⟨rfl, hq⟩
  have hC := Lib.hid ((hC.out.below hq).mono hq.size)
  have hP := Lib.hid ((hP.out.below hq).mono hq.size)
  have hQ := Lib.hid ((hQ.out.below hq).mono hq.size)
  have hL := Lib.hid ((hL.out.below hq).mono hq.size)
  have ch := Lib.hid (ch.out.trans (hq.mono ch.out.size))
  clear hq
  go_wp2
  go_ret
  exact ⟨rfl, ch.out⟩

set_option maxHeartbeats 8000000 in
theorem makes_t_tft {w : World} (d : ByteArray) (hs : d.size ≤ 140737488355328) (ca : Option Addr) (cn cc : Nat) (pa : Option Addr) (pn pc : Nat) (qa : Option Addr) (qn qc : Nat) (c p q : List Ins) (hhC : InsRow w w.heap.size (.slice ca cn cc) c) (hhP : InsRow w w.heap.size (.slice pa pn pc) p) (hhQ : InsRow w w.heap.size (.slice qa qn qc) q) (HD : Hid (isTree d = true)) (HVp : Hid (validB p = true)) (HVc : Hid (validB c = false)) (HVq : Hid (validB q = true)) :
    Calls Try.prog 7 #[.string d, .slice ca cn cc, .slice pa pn pc, .slice qa qn qc] w fun e w' => e = .returned (.bool true) ∧ Below w.heap.size w w' := by
  have hC := Lib.hid hhC
  have hP := Lib.hid hhP
  have hQ := Lib.hid hhQ
  clear hhC hhP hhQ
  have kT := fun w => tvalid_at d hs true HD.out w
  have ch := Lib.hid (Below.refl w.heap.size w)
  go_enter Try.func7, Try.ntmps7
  go_wp2_with fail
  have hL0 := ProgsRow.lit (w := w) [.slice ca cn cc, .slice pa pn pc, .slice qa qn qc] [c, p, q] rfl (by simp) (fun j u l hu hl => match j, u, l, hu, hl with | 0, _, _, hu, hl => by cases hu; cases hl; exact hC.out | 1, _, _, hu, hl => by cases hu; cases hl; exact hP.out | 2, _, _, hu, hl => by cases hu; cases hl; exact hQ.out)
  obtain ⟨w1, hW⟩ : ∃ B, w.alloc (.cells #[.slice ca cn cc, .slice pa pn pc, .slice qa qn qc] 25) = B := ⟨_, rfl⟩
  rw [hW]
  have hq : Below w.heap.size w w1 := by rw [← hW]; exact (Below.refl _ _).alloc (Nat.le_refl _) _
  have hL := Lib.hid (show ProgsRow w1 w1.heap.size (.slice (some ⟨w.heap.size, 0, none⟩) 3 3) [c, p, q] by rw [← hW]; exact hL0)
  clear hW hL0
  have hC := Lib.hid ((hC.out.below hq).mono hq.size)
  have hP := Lib.hid ((hP.out.below hq).mono hq.size)
  have hQ := Lib.hid ((hQ.out.below hq).mono hq.size)
  have ch := Lib.hid (ch.out.trans (hq.mono ch.out.size))
  clear hq
  refine (copied_any _ [c, p, q] _ hL.out).mono ?_
  rintro e w2 ⟨vl, rfl, hWas, hq⟩
  have hC := Lib.hid ((hC.out.below hq).mono hq.size)
  have hP := Lib.hid ((hP.out.below hq).mono hq.size)
  have hQ := Lib.hid ((hQ.out.below hq).mono hq.size)
  have hL := Lib.hid ((hL.out.below hq).mono hq.size)
  have ch := Lib.hid (ch.out.trans (hq.mono ch.out.size))
  clear hq
  have hWas := Lib.hid hWas
  go_wp2_with fail
  refine (bConst_ok d hs HD.out _).mono ?_
  rintro e w3 ⟨aa, ac, rfl, hA, hq⟩
  have hC := Lib.hid ((hC.out.below hq).mono hq.size)
  have hP := Lib.hid ((hP.out.below hq).mono hq.size)
  have hQ := Lib.hid ((hQ.out.below hq).mono hq.size)
  have hL := Lib.hid ((hL.out.below hq).mono hq.size)
  have hWas := Lib.hid ((hWas.out.below hq).mono hq.size)
  have ch := Lib.hid (ch.out.trans (hq.mono ch.out.size))
  clear hq
  have hA := Lib.hid hA
  go_wp2_with fail
  refine (made_tb (bPair_any _ _ _ _ _ _ p q _ hP.out hQ.out)).mono ?_
  rintro e w4 ⟨vb, rfl, hB, hq⟩
  have hC := Lib.hid ((hC.out.below hq).mono hq.size)
  have hP := Lib.hid ((hP.out.below hq).mono hq.size)
  have hQ := Lib.hid ((hQ.out.below hq).mono hq.size)
  have hL := Lib.hid ((hL.out.below hq).mono hq.size)
  have hWas := Lib.hid ((hWas.out.below hq).mono hq.size)
  have hA := Lib.hid ((hA.out.below hq).mono hq.size)
  have ch := Lib.hid (ch.out.trans (hq.mono ch.out.size))
  clear hq
  have hB := Lib.hid hB
  go_wp2_with fail
  refine (made_tb (bIf_any _ _ _ _ _ _ _ _ _ c p q _ hC.out hP.out hQ.out)).mono ?_
  rintro e w5 ⟨vx, rfl, hX, hq⟩
  have hC := Lib.hid ((hC.out.below hq).mono hq.size)
  have hP := Lib.hid ((hP.out.below hq).mono hq.size)
  have hQ := Lib.hid ((hQ.out.below hq).mono hq.size)
  have hL := Lib.hid ((hL.out.below hq).mono hq.size)
  have hWas := Lib.hid ((hWas.out.below hq).mono hq.size)
  have hA := Lib.hid ((hA.out.below hq).mono hq.size)
  have hB := Lib.hid ((hB.out.below hq).mono hq.size)
  have ch := Lib.hid (ch.out.trans (hq.mono ch.out.size))
  clear hq
  have hX := Lib.hid hX
  go_wp2_with fail
  refine (made_tb (bWhile_any _ _ _ _ _ _ c p _ hC.out hP.out)).mono ?_
  rintro e w6 ⟨vy, rfl, hW, hq⟩
  have hC := Lib.hid ((hC.out.below hq).mono hq.size)
  have hP := Lib.hid ((hP.out.below hq).mono hq.size)
  have hQ := Lib.hid ((hQ.out.below hq).mono hq.size)
  have hL := Lib.hid ((hL.out.below hq).mono hq.size)
  have hWas := Lib.hid ((hWas.out.below hq).mono hq.size)
  have hA := Lib.hid ((hA.out.below hq).mono hq.size)
  have hB := Lib.hid ((hB.out.below hq).mono hq.size)
  have hX := Lib.hid ((hX.out.below hq).mono hq.size)
  have ch := Lib.hid (ch.out.trans (hq.mono ch.out.size))
  clear hq
  have hW := Lib.hid hW
  go_wp2_with fail
  refine (alike_self _ _ [c, p, q] _ hL.out hWas.out).mono ?_
  rintro e w7 ⟨rfl, hq⟩
  have hC := Lib.hid ((hC.out.below hq).mono hq.size)
  have hP := Lib.hid ((hP.out.below hq).mono hq.size)
  have hQ := Lib.hid ((hQ.out.below hq).mono hq.size)
  have hL := Lib.hid ((hL.out.below hq).mono hq.size)
  have hWas := Lib.hid ((hWas.out.below hq).mono hq.size)
  have hA := Lib.hid ((hA.out.below hq).mono hq.size)
  have hB := Lib.hid ((hB.out.below hq).mono hq.size)
  have hX := Lib.hid ((hX.out.below hq).mono hq.size)
  have hW := Lib.hid ((hW.out.below hq).mono hq.size)
  have ch := Lib.hid (ch.out.trans (hq.mono ch.out.size))
  clear hq
  clear hWas
  go_wp2_with fail
  refine (kT _).mono ?_
  rintro e w8 ⟨rfl, hq⟩
  have hC := Lib.hid ((hC.out.below hq).mono hq.size)
  have hP := Lib.hid ((hP.out.below hq).mono hq.size)
  have hQ := Lib.hid ((hQ.out.below hq).mono hq.size)
  have hL := Lib.hid ((hL.out.below hq).mono hq.size)
  have hA := Lib.hid ((hA.out.below hq).mono hq.size)
  have hB := Lib.hid ((hB.out.below hq).mono hq.size)
  have hX := Lib.hid ((hX.out.below hq).mono hq.size)
  have hW := Lib.hid ((hW.out.below hq).mono hq.size)
  have ch := Lib.hid (ch.out.trans (hq.mono ch.out.size))
  clear hq
  go_wp2_with fail
  refine (refConst_ok d hs _).mono ?_
  rintro e w9 ⟨ra, rc, rfl, hR, hq⟩
  have hC := Lib.hid ((hC.out.below hq).mono hq.size)
  have hP := Lib.hid ((hP.out.below hq).mono hq.size)
  have hQ := Lib.hid ((hQ.out.below hq).mono hq.size)
  have hL := Lib.hid ((hL.out.below hq).mono hq.size)
  have hA := Lib.hid ((hA.out.below hq).mono hq.size)
  have hB := Lib.hid ((hB.out.below hq).mono hq.size)
  have hX := Lib.hid ((hX.out.below hq).mono hq.size)
  have hW := Lib.hid ((hW.out.below hq).mono hq.size)
  have ch := Lib.hid (ch.out.trans (hq.mono ch.out.size))
  clear hq
  have hR := Lib.hid hR
  go_wp2_with fail
  refine (same_self hA.out hR.out).mono ?_
  rintro e w10 ⟨rfl, hq⟩
  have hC := Lib.hid ((hC.out.below hq).mono hq.size)
  have hP := Lib.hid ((hP.out.below hq).mono hq.size)
  have hQ := Lib.hid ((hQ.out.below hq).mono hq.size)
  have hL := Lib.hid ((hL.out.below hq).mono hq.size)
  have hA := Lib.hid ((hA.out.below hq).mono hq.size)
  have hB := Lib.hid ((hB.out.below hq).mono hq.size)
  have hX := Lib.hid ((hX.out.below hq).mono hq.size)
  have hW := Lib.hid ((hW.out.below hq).mono hq.size)
  have hR := Lib.hid ((hR.out.below hq).mono hq.size)
  have ch := Lib.hid (ch.out.trans (hq.mono ch.out.size))
  clear hq
  clear hA hR
  go_wp2_with fail
  refine (cvalid_at _ HVp.out hP.out).mono ?_
  rintro e w11 ⟨rfl, hq⟩
  have hC := Lib.hid ((hC.out.below hq).mono hq.size)
  have hP := Lib.hid ((hP.out.below hq).mono hq.size)
  have hQ := Lib.hid ((hQ.out.below hq).mono hq.size)
  have hL := Lib.hid ((hL.out.below hq).mono hq.size)
  have hB := Lib.hid ((hB.out.below hq).mono hq.size)
  have hX := Lib.hid ((hX.out.below hq).mono hq.size)
  have hW := Lib.hid ((hW.out.below hq).mono hq.size)
  have ch := Lib.hid (ch.out.trans (hq.mono ch.out.size))
  clear hq
  go_wp2_with fail
  refine (cvalid_at _ HVq.out hQ.out).mono ?_
  rintro e w12 ⟨rfl, hq⟩
  have hC := Lib.hid ((hC.out.below hq).mono hq.size)
  have hP := Lib.hid ((hP.out.below hq).mono hq.size)
  have hQ := Lib.hid ((hQ.out.below hq).mono hq.size)
  have hL := Lib.hid ((hL.out.below hq).mono hq.size)
  have hB := Lib.hid ((hB.out.below hq).mono hq.size)
  have hX := Lib.hid ((hX.out.below hq).mono hq.size)
  have hW := Lib.hid ((hW.out.below hq).mono hq.size)
  have ch := Lib.hid (ch.out.trans (hq.mono ch.out.size))
  clear hq
  go_wp2_with fail
  refine (refPair_row _ _ p q _ hP.out hQ.out HVp.out HVq.out).mono ?_
  rintro e w13 ⟨v2, rfl, h2, hq⟩
  have hC := Lib.hid ((hC.out.below hq).mono hq.size)
  have hP := Lib.hid ((hP.out.below hq).mono hq.size)
  have hQ := Lib.hid ((hQ.out.below hq).mono hq.size)
  have hL := Lib.hid ((hL.out.below hq).mono hq.size)
  have hB := Lib.hid ((hB.out.below hq).mono hq.size)
  have hX := Lib.hid ((hX.out.below hq).mono hq.size)
  have hW := Lib.hid ((hW.out.below hq).mono hq.size)
  have ch := Lib.hid (ch.out.trans (hq.mono ch.out.size))
  clear hq
  have h2 := Lib.hid h2
  go_wp2_with fail
  refine (cvalid_at _ HVc.out hC.out).mono ?_
  rintro e w14 ⟨rfl, hq⟩
  have hC := Lib.hid ((hC.out.below hq).mono hq.size)
  have hP := Lib.hid ((hP.out.below hq).mono hq.size)
  have hQ := Lib.hid ((hQ.out.below hq).mono hq.size)
  have hL := Lib.hid ((hL.out.below hq).mono hq.size)
  have hB := Lib.hid ((hB.out.below hq).mono hq.size)
  have hX := Lib.hid ((hX.out.below hq).mono hq.size)
  have hW := Lib.hid ((hW.out.below hq).mono hq.size)
  have h2 := Lib.hid ((h2.out.below hq).mono hq.size)
  have ch := Lib.hid (ch.out.trans (hq.mono ch.out.size))
  clear hq
  go_wp2_with fail
  refine (due_at _ _ [p, q] (pairL p q) (pairL p q) _ (dueF_pair p q) (fun _ => rfl) (hL.out.right) h2.out).mono ?_
  rintro e w15 ⟨rfl, hq⟩
  have hC := Lib.hid ((hC.out.below hq).mono hq.size)
  have hP := Lib.hid ((hP.out.below hq).mono hq.size)
  have hQ := Lib.hid ((hQ.out.below hq).mono hq.size)
  have hL := Lib.hid ((hL.out.below hq).mono hq.size)
  have hB := Lib.hid ((hB.out.below hq).mono hq.size)
  have hX := Lib.hid ((hX.out.below hq).mono hq.size)
  have hW := Lib.hid ((hW.out.below hq).mono hq.size)
  have h2 := Lib.hid ((h2.out.below hq).mono hq.size)
  have ch := Lib.hid (ch.out.trans (hq.mono ch.out.size))
  clear hq
  go_wp2_with fail
  refine (told_at _ _ [p, q] (pairL p q) (pairL p q) _ (fun _ => rfl) hB.out h2.out).mono ?_
  rintro e w16 ⟨rfl, hq⟩
  have hC := Lib.hid ((hC.out.below hq).mono hq.size)
  have hP := Lib.hid ((hP.out.below hq).mono hq.size)
  have hQ := Lib.hid ((hQ.out.below hq).mono hq.size)
  have hL := Lib.hid ((hL.out.below hq).mono hq.size)
  have hB := Lib.hid ((hB.out.below hq).mono hq.size)
  have hX := Lib.hid ((hX.out.below hq).mono hq.size)
  have hW := Lib.hid ((hW.out.below hq).mono hq.size)
  have h2 := Lib.hid ((h2.out.below hq).mono hq.size)
  have ch := Lib.hid (ch.out.trans (hq.mono ch.out.size))
  clear hq
  clear hB
  have m_three := Lib.hid (show allV [c, p, q] = true → [] = ifL c p q from fun e => by simp [allV3, HVp.out, HVc.out, HVq.out] at e)
  go_wp2_with fail
  refine (due_at _ _ [c, p, q] (ifL c p q) [] _ (dueF_if c p q) m_three.out (hL.out) (row_nil _ _)).mono ?_
  rintro e w17 ⟨rfl, hq⟩
  have hC := Lib.hid ((hC.out.below hq).mono hq.size)
  have hP := Lib.hid ((hP.out.below hq).mono hq.size)
  have hQ := Lib.hid ((hQ.out.below hq).mono hq.size)
  have hL := Lib.hid ((hL.out.below hq).mono hq.size)
  have hX := Lib.hid ((hX.out.below hq).mono hq.size)
  have hW := Lib.hid ((hW.out.below hq).mono hq.size)
  have h2 := Lib.hid ((h2.out.below hq).mono hq.size)
  have ch := Lib.hid (ch.out.trans (hq.mono ch.out.size))
  clear hq
  go_wp2_with fail
  refine (told_at _ _ [c, p, q] (ifL c p q) [] _ m_three.out hX.out (row_nil _ _)).mono ?_
  rintro e w18 ⟨rfl, hq⟩
  have hC := Lib.hid ((hC.out.below hq).mono hq.size)
  have hP := Lib.hid ((hP.out.below hq).mono hq.size)
  have hQ := Lib.hid ((hQ.out.below hq).mono hq.size)
  have hL := Lib.hid ((hL.out.below hq).mono hq.size)
  have hX := Lib.hid ((hX.out.below hq).mono hq.size)
  have hW := Lib.hid ((hW.out.below hq).mono hq.size)
  have h2 := Lib.hid ((h2.out.below hq).mono hq.size)
  have ch := Lib.hid (ch.out.trans (hq.mono ch.out.size))
  clear hq
  clear hX m_three
  have m_loop := Lib.hid (show allV [c, p] = true → [] = whileL c p from fun e => by simp [allV2, HVp.out, HVc.out, HVq.out] at e)
  go_wp2_with fail
  refine (due_at _ _ [c, p] (whileL c p) [] _ (dueF_while c p) m_loop.out (hL.out.left) (row_nil _ _)).mono ?_
  rintro e w19 ⟨rfl, hq⟩
  have hC := Lib.hid ((hC.out.below hq).mono hq.size)
  have hP := Lib.hid ((hP.out.below hq).mono hq.size)
  have hQ := Lib.hid ((hQ.out.below hq).mono hq.size)
  have hL := Lib.hid ((hL.out.below hq).mono hq.size)
  have hW := Lib.hid ((hW.out.below hq).mono hq.size)
  have h2 := Lib.hid ((h2.out.below hq).mono hq.size)
  have ch := Lib.hid (ch.out.trans (hq.mono ch.out.size))
  clear hq
  go_wp2_with fail
  refine (told_at _ _ [c, p] (whileL c p) [] _ m_loop.out hW.out (row_nil _ _)).mono ?_
  rintro e w20 ⟨rfl, hq⟩
  have hC := Lib.hid ((hC.out.below hq).mono hq.size)
  have hP := Lib.hid ((hP.out.below hq).mono hq.size)
  have hQ := Lib.hid ((hQ.out.below hq).mono hq.size)
  have hL := Lib.hid ((hL.out.below hq).mono hq.size)
  have hW := Lib.hid ((hW.out.below hq).mono hq.size)
  have h2 := Lib.hid ((h2.out.below hq).mono hq.size)
  have ch := Lib.hid (ch.out.trans (hq.mono ch.out.size))
  clear hq
  clear hW m_loop
  go_wp2_with fail
  refine (awake_any _).mono ?_
  rintro e w21 ⟨rfl, hq⟩
  have hC := Lib.hid ((hC.out.below hq).mono hq.size)
  have hP := Lib.hid ((hP.out.below hq).mono hq.size)
  have hQ := Lib.hid ((hQ.out.below hq).mono hq.size)
  have hL := Lib.hid ((hL.out.below hq).mono hq.size)
  have h2 := Lib.hid ((h2.out.below hq).mono hq.size)
  have ch := Lib.hid (ch.out.trans (hq.mono ch.out.size))
  clear hq
  go_wp2
  go_ret
  exact ⟨rfl, ch.out⟩

set_option maxHeartbeats 8000000 in
theorem makes_t_ttf {w : World} (d : ByteArray) (hs : d.size ≤ 140737488355328) (ca : Option Addr) (cn cc : Nat) (pa : Option Addr) (pn pc : Nat) (qa : Option Addr) (qn qc : Nat) (c p q : List Ins) (hhC : InsRow w w.heap.size (.slice ca cn cc) c) (hhP : InsRow w w.heap.size (.slice pa pn pc) p) (hhQ : InsRow w w.heap.size (.slice qa qn qc) q) (HD : Hid (isTree d = true)) (HVp : Hid (validB p = true)) (HVc : Hid (validB c = true)) (HVq : Hid (validB q = false)) :
    Calls Try.prog 7 #[.string d, .slice ca cn cc, .slice pa pn pc, .slice qa qn qc] w fun e w' => e = .returned (.bool true) ∧ Below w.heap.size w w' := by
  have hC := Lib.hid hhC
  have hP := Lib.hid hhP
  have hQ := Lib.hid hhQ
  clear hhC hhP hhQ
  have kT := fun w => tvalid_at d hs true HD.out w
  have ch := Lib.hid (Below.refl w.heap.size w)
  go_enter Try.func7, Try.ntmps7
  go_wp2_with fail
  have hL0 := ProgsRow.lit (w := w) [.slice ca cn cc, .slice pa pn pc, .slice qa qn qc] [c, p, q] rfl (by simp) (fun j u l hu hl => match j, u, l, hu, hl with | 0, _, _, hu, hl => by cases hu; cases hl; exact hC.out | 1, _, _, hu, hl => by cases hu; cases hl; exact hP.out | 2, _, _, hu, hl => by cases hu; cases hl; exact hQ.out)
  obtain ⟨w1, hW⟩ : ∃ B, w.alloc (.cells #[.slice ca cn cc, .slice pa pn pc, .slice qa qn qc] 25) = B := ⟨_, rfl⟩
  rw [hW]
  have hq : Below w.heap.size w w1 := by rw [← hW]; exact (Below.refl _ _).alloc (Nat.le_refl _) _
  have hL := Lib.hid (show ProgsRow w1 w1.heap.size (.slice (some ⟨w.heap.size, 0, none⟩) 3 3) [c, p, q] by rw [← hW]; exact hL0)
  clear hW hL0
  have hC := Lib.hid ((hC.out.below hq).mono hq.size)
  have hP := Lib.hid ((hP.out.below hq).mono hq.size)
  have hQ := Lib.hid ((hQ.out.below hq).mono hq.size)
  have ch := Lib.hid (ch.out.trans (hq.mono ch.out.size))
  clear hq
  refine (copied_any _ [c, p, q] _ hL.out).mono ?_
  rintro e w2 ⟨vl, rfl, hWas, hq⟩
  have hC := Lib.hid ((hC.out.below hq).mono hq.size)
  have hP := Lib.hid ((hP.out.below hq).mono hq.size)
  have hQ := Lib.hid ((hQ.out.below hq).mono hq.size)
  have hL := Lib.hid ((hL.out.below hq).mono hq.size)
  have ch := Lib.hid (ch.out.trans (hq.mono ch.out.size))
  clear hq
  have hWas := Lib.hid hWas
  go_wp2_with fail
  refine (bConst_ok d hs HD.out _).mono ?_
  rintro e w3 ⟨aa, ac, rfl, hA, hq⟩
  have hC := Lib.hid ((hC.out.below hq).mono hq.size)
  have hP := Lib.hid ((hP.out.below hq).mono hq.size)
  have hQ := Lib.hid ((hQ.out.below hq).mono hq.size)
  have hL := Lib.hid ((hL.out.below hq).mono hq.size)
  have hWas := Lib.hid ((hWas.out.below hq).mono hq.size)
  have ch := Lib.hid (ch.out.trans (hq.mono ch.out.size))
  clear hq
  have hA := Lib.hid hA
  go_wp2_with fail
  refine (made_tb (bPair_any _ _ _ _ _ _ p q _ hP.out hQ.out)).mono ?_
  rintro e w4 ⟨vb, rfl, hB, hq⟩
  have hC := Lib.hid ((hC.out.below hq).mono hq.size)
  have hP := Lib.hid ((hP.out.below hq).mono hq.size)
  have hQ := Lib.hid ((hQ.out.below hq).mono hq.size)
  have hL := Lib.hid ((hL.out.below hq).mono hq.size)
  have hWas := Lib.hid ((hWas.out.below hq).mono hq.size)
  have hA := Lib.hid ((hA.out.below hq).mono hq.size)
  have ch := Lib.hid (ch.out.trans (hq.mono ch.out.size))
  clear hq
  have hB := Lib.hid hB
  go_wp2_with fail
  refine (made_tb (bIf_any _ _ _ _ _ _ _ _ _ c p q _ hC.out hP.out hQ.out)).mono ?_
  rintro e w5 ⟨vx, rfl, hX, hq⟩
  have hC := Lib.hid ((hC.out.below hq).mono hq.size)
  have hP := Lib.hid ((hP.out.below hq).mono hq.size)
  have hQ := Lib.hid ((hQ.out.below hq).mono hq.size)
  have hL := Lib.hid ((hL.out.below hq).mono hq.size)
  have hWas := Lib.hid ((hWas.out.below hq).mono hq.size)
  have hA := Lib.hid ((hA.out.below hq).mono hq.size)
  have hB := Lib.hid ((hB.out.below hq).mono hq.size)
  have ch := Lib.hid (ch.out.trans (hq.mono ch.out.size))
  clear hq
  have hX := Lib.hid hX
  go_wp2_with fail
  refine (made_tb (bWhile_any _ _ _ _ _ _ c p _ hC.out hP.out)).mono ?_
  rintro e w6 ⟨vy, rfl, hW, hq⟩
  have hC := Lib.hid ((hC.out.below hq).mono hq.size)
  have hP := Lib.hid ((hP.out.below hq).mono hq.size)
  have hQ := Lib.hid ((hQ.out.below hq).mono hq.size)
  have hL := Lib.hid ((hL.out.below hq).mono hq.size)
  have hWas := Lib.hid ((hWas.out.below hq).mono hq.size)
  have hA := Lib.hid ((hA.out.below hq).mono hq.size)
  have hB := Lib.hid ((hB.out.below hq).mono hq.size)
  have hX := Lib.hid ((hX.out.below hq).mono hq.size)
  have ch := Lib.hid (ch.out.trans (hq.mono ch.out.size))
  clear hq
  have hW := Lib.hid hW
  go_wp2_with fail
  refine (alike_self _ _ [c, p, q] _ hL.out hWas.out).mono ?_
  rintro e w7 ⟨rfl, hq⟩
  have hC := Lib.hid ((hC.out.below hq).mono hq.size)
  have hP := Lib.hid ((hP.out.below hq).mono hq.size)
  have hQ := Lib.hid ((hQ.out.below hq).mono hq.size)
  have hL := Lib.hid ((hL.out.below hq).mono hq.size)
  have hWas := Lib.hid ((hWas.out.below hq).mono hq.size)
  have hA := Lib.hid ((hA.out.below hq).mono hq.size)
  have hB := Lib.hid ((hB.out.below hq).mono hq.size)
  have hX := Lib.hid ((hX.out.below hq).mono hq.size)
  have hW := Lib.hid ((hW.out.below hq).mono hq.size)
  have ch := Lib.hid (ch.out.trans (hq.mono ch.out.size))
  clear hq
  clear hWas
  go_wp2_with fail
  refine (kT _).mono ?_
  rintro e w8 ⟨rfl, hq⟩
  have hC := Lib.hid ((hC.out.below hq).mono hq.size)
  have hP := Lib.hid ((hP.out.below hq).mono hq.size)
  have hQ := Lib.hid ((hQ.out.below hq).mono hq.size)
  have hL := Lib.hid ((hL.out.below hq).mono hq.size)
  have hA := Lib.hid ((hA.out.below hq).mono hq.size)
  have hB := Lib.hid ((hB.out.below hq).mono hq.size)
  have hX := Lib.hid ((hX.out.below hq).mono hq.size)
  have hW := Lib.hid ((hW.out.below hq).mono hq.size)
  have ch := Lib.hid (ch.out.trans (hq.mono ch.out.size))
  clear hq
  go_wp2_with fail
  refine (refConst_ok d hs _).mono ?_
  rintro e w9 ⟨ra, rc, rfl, hR, hq⟩
  have hC := Lib.hid ((hC.out.below hq).mono hq.size)
  have hP := Lib.hid ((hP.out.below hq).mono hq.size)
  have hQ := Lib.hid ((hQ.out.below hq).mono hq.size)
  have hL := Lib.hid ((hL.out.below hq).mono hq.size)
  have hA := Lib.hid ((hA.out.below hq).mono hq.size)
  have hB := Lib.hid ((hB.out.below hq).mono hq.size)
  have hX := Lib.hid ((hX.out.below hq).mono hq.size)
  have hW := Lib.hid ((hW.out.below hq).mono hq.size)
  have ch := Lib.hid (ch.out.trans (hq.mono ch.out.size))
  clear hq
  have hR := Lib.hid hR
  go_wp2_with fail
  refine (same_self hA.out hR.out).mono ?_
  rintro e w10 ⟨rfl, hq⟩
  have hC := Lib.hid ((hC.out.below hq).mono hq.size)
  have hP := Lib.hid ((hP.out.below hq).mono hq.size)
  have hQ := Lib.hid ((hQ.out.below hq).mono hq.size)
  have hL := Lib.hid ((hL.out.below hq).mono hq.size)
  have hA := Lib.hid ((hA.out.below hq).mono hq.size)
  have hB := Lib.hid ((hB.out.below hq).mono hq.size)
  have hX := Lib.hid ((hX.out.below hq).mono hq.size)
  have hW := Lib.hid ((hW.out.below hq).mono hq.size)
  have hR := Lib.hid ((hR.out.below hq).mono hq.size)
  have ch := Lib.hid (ch.out.trans (hq.mono ch.out.size))
  clear hq
  clear hA hR
  go_wp2_with fail
  refine (cvalid_at _ HVp.out hP.out).mono ?_
  rintro e w11 ⟨rfl, hq⟩
  have hC := Lib.hid ((hC.out.below hq).mono hq.size)
  have hP := Lib.hid ((hP.out.below hq).mono hq.size)
  have hQ := Lib.hid ((hQ.out.below hq).mono hq.size)
  have hL := Lib.hid ((hL.out.below hq).mono hq.size)
  have hB := Lib.hid ((hB.out.below hq).mono hq.size)
  have hX := Lib.hid ((hX.out.below hq).mono hq.size)
  have hW := Lib.hid ((hW.out.below hq).mono hq.size)
  have ch := Lib.hid (ch.out.trans (hq.mono ch.out.size))
  clear hq
  go_wp2_with fail
  refine (cvalid_at _ HVq.out hQ.out).mono ?_
  rintro e w12 ⟨rfl, hq⟩
  have hC := Lib.hid ((hC.out.below hq).mono hq.size)
  have hP := Lib.hid ((hP.out.below hq).mono hq.size)
  have hQ := Lib.hid ((hQ.out.below hq).mono hq.size)
  have hL := Lib.hid ((hL.out.below hq).mono hq.size)
  have hB := Lib.hid ((hB.out.below hq).mono hq.size)
  have hX := Lib.hid ((hX.out.below hq).mono hq.size)
  have hW := Lib.hid ((hW.out.below hq).mono hq.size)
  have ch := Lib.hid (ch.out.trans (hq.mono ch.out.size))
  clear hq
  go_wp2_with fail
  refine (cvalid_at _ HVc.out hC.out).mono ?_
  rintro e w13 ⟨rfl, hq⟩
  have hC := Lib.hid ((hC.out.below hq).mono hq.size)
  have hP := Lib.hid ((hP.out.below hq).mono hq.size)
  have hQ := Lib.hid ((hQ.out.below hq).mono hq.size)
  have hL := Lib.hid ((hL.out.below hq).mono hq.size)
  have hB := Lib.hid ((hB.out.below hq).mono hq.size)
  have hX := Lib.hid ((hX.out.below hq).mono hq.size)
  have hW := Lib.hid ((hW.out.below hq).mono hq.size)
  have ch := Lib.hid (ch.out.trans (hq.mono ch.out.size))
  clear hq
  go_wp2_with fail
  refine (cvalid_at _ HVp.out hP.out).mono ?_
  rintro e w14 ⟨rfl, hq⟩
  have hC := Lib.hid ((hC.out.below hq).mono hq.size)
  have hP := Lib.hid ((hP.out.below hq).mono hq.size)
  have hQ := Lib.hid ((hQ.out.below hq).mono hq.size)
  have hL := Lib.hid ((hL.out.below hq).mono hq.size)
  have hB := Lib.hid ((hB.out.below hq).mono hq.size)
  have hX := Lib.hid ((hX.out.below hq).mono hq.size)
  have hW := Lib.hid ((hW.out.below hq).mono hq.size)
  have ch := Lib.hid (ch.out.trans (hq.mono ch.out.size))
  clear hq
  go_wp2_with fail
  refine (refWhile_row _ _ c p _ hC.out hP.out HVc.out HVp.out).mono ?_
  rintro e w15 ⟨v3, rfl, h3, hq⟩
  have hC := Lib.hid ((hC.out.below hq).mono hq.size)
  have hP := Lib.hid ((hP.out.below hq).mono hq.size)
  have hQ := Lib.hid ((hQ.out.below hq).mono hq.size)
  have hL := Lib.hid ((hL.out.below hq).mono hq.size)
  have hB := Lib.hid ((hB.out.below hq).mono hq.size)
  have hX := Lib.hid ((hX.out.below hq).mono hq.size)
  have hW := Lib.hid ((hW.out.below hq).mono hq.size)
  have ch := Lib.hid (ch.out.trans (hq.mono ch.out.size))
  clear hq
  have h3 := Lib.hid h3
  go_wp2_with fail
  refine (cvalid_at _ HVq.out hQ.out).mono ?_
  rintro e w16 ⟨rfl, hq⟩
  have hC := Lib.hid ((hC.out.below hq).mono hq.size)
  have hP := Lib.hid ((hP.out.below hq).mono hq.size)
  have hQ := Lib.hid ((hQ.out.below hq).mono hq.size)
  have hL := Lib.hid ((hL.out.below hq).mono hq.size)
  have hB := Lib.hid ((hB.out.below hq).mono hq.size)
  have hX := Lib.hid ((hX.out.below hq).mono hq.size)
  have hW := Lib.hid ((hW.out.below hq).mono hq.size)
  have h3 := Lib.hid ((h3.out.below hq).mono hq.size)
  have ch := Lib.hid (ch.out.trans (hq.mono ch.out.size))
  clear hq
  have m_two := Lib.hid (show allV [p, q] = true → [] = pairL p q from fun e => by simp [allV2, HVp.out, HVc.out, HVq.out] at e)
  go_wp2_with fail
  refine (due_at _ _ [p, q] (pairL p q) [] _ (dueF_pair p q) m_two.out (hL.out.right) (row_nil _ _)).mono ?_
  rintro e w17 ⟨rfl, hq⟩
  have hC := Lib.hid ((hC.out.below hq).mono hq.size)
  have hP := Lib.hid ((hP.out.below hq).mono hq.size)
  have hQ := Lib.hid ((hQ.out.below hq).mono hq.size)
  have hL := Lib.hid ((hL.out.below hq).mono hq.size)
  have hB := Lib.hid ((hB.out.below hq).mono hq.size)
  have hX := Lib.hid ((hX.out.below hq).mono hq.size)
  have hW := Lib.hid ((hW.out.below hq).mono hq.size)
  have h3 := Lib.hid ((h3.out.below hq).mono hq.size)
  have ch := Lib.hid (ch.out.trans (hq.mono ch.out.size))
  clear hq
  go_wp2_with fail
  refine (told_at _ _ [p, q] (pairL p q) [] _ m_two.out hB.out (row_nil _ _)).mono ?_
  rintro e w18 ⟨rfl, hq⟩
  have hC := Lib.hid ((hC.out.below hq).mono hq.size)
  have hP := Lib.hid ((hP.out.below hq).mono hq.size)
  have hQ := Lib.hid ((hQ.out.below hq).mono hq.size)
  have hL := Lib.hid ((hL.out.below hq).mono hq.size)
  have hB := Lib.hid ((hB.out.below hq).mono hq.size)
  have hX := Lib.hid ((hX.out.below hq).mono hq.size)
  have hW := Lib.hid ((hW.out.below hq).mono hq.size)
  have h3 := Lib.hid ((h3.out.below hq).mono hq.size)
  have ch := Lib.hid (ch.out.trans (hq.mono ch.out.size))
  clear hq
  clear hB m_two
  have m_three := Lib.hid (show allV [c, p, q] = true → [] = ifL c p q from fun e => by simp [allV3, HVp.out, HVc.out, HVq.out] at e)
  go_wp2_with fail
  refine (due_at _ _ [c, p, q] (ifL c p q) [] _ (dueF_if c p q) m_three.out (hL.out) (row_nil _ _)).mono ?_
  rintro e w19 ⟨rfl, hq⟩
  have hC := Lib.hid ((hC.out.below hq).mono hq.size)
  have hP := Lib.hid ((hP.out.below hq).mono hq.size)
  have hQ := Lib.hid ((hQ.out.below hq).mono hq.size)
  have hL := Lib.hid ((hL.out.below hq).mono hq.size)
  have hX := Lib.hid ((hX.out.below hq).mono hq.size)
  have hW := Lib.hid ((hW.out.below hq).mono hq.size)
  have h3 := Lib.hid ((h3.out.below hq).mono hq.size)
  have ch := Lib.hid (ch.out.trans (hq.mono ch.out.size))
  clear hq
  go_wp2_with fail
  refine (told_at _ _ [c, p, q] (ifL c p q) [] _ m_three.out hX.out (row_nil _ _)).mono ?_
  rintro e w20 ⟨rfl, hq⟩
  have hC := Lib.hid ((hC.out.below hq).mono hq.size)
  have hP := Lib.hid ((hP.out.below hq).mono hq.size)
  have hQ := Lib.hid ((hQ.out.below hq).mono hq.size)
  have hL := Lib.hid ((hL.out.below hq).mono hq.size)
  have hX := Lib.hid ((hX.out.below hq).mono hq.size)
  have hW := Lib.hid ((hW.out.below hq).mono hq.size)
  have h3 := Lib.hid ((h3.out.below hq).mono hq.size)
  have ch := Lib.hid (ch.out.trans (hq.mono ch.out.size))
  clear hq
  clear hX m_three
  go_wp2_with fail
  refine (due_at _ _ [c, p] (whileL c p) (whileL c p) _ (dueF_while c p) (fun _ => rfl) (hL.out.left) h3.out).mono ?_
  rintro e w21 ⟨rfl, hq⟩
  have hC := Lib.hid ((hC.out.below hq).mono hq.size)
  have hP := Lib.hid ((hP.out.below hq).mono hq.size)
  have hQ := Lib.hid ((hQ.out.below hq).mono hq.size)
  have hL := Lib.hid ((hL.out.below hq).mono hq.size)
  have hW := Lib.hid ((hW.out.below hq).mono hq.size)
  have h3 := Lib.hid ((h3.out.below hq).mono hq.size)
  have ch := Lib.hid (ch.out.trans (hq.mono ch.out.size))
  clear hq
  go_wp2_with fail
  refine (told_at _ _ [c, p] (whileL c p) (whileL c p) _ (fun _ => rfl) hW.out h3.out).mono ?_
  rintro e w22 ⟨rfl, hq⟩
  have hC := Lib.hid ((hC.out.below hq).mono hq.size)
  have hP := Lib.hid ((hP.out.below hq).mono hq.size)
  have hQ := Lib.hid ((hQ.out.below hq).mono hq.size)
  have hL := Lib.hid ((hL.out.below hq).mono hq.size)
  have hW := Lib.hid ((hW.out.below hq).mono hq.size)
  have h3 := Lib.hid ((h3.out.below hq).mono hq.size)
  have ch := Lib.hid (ch.out.trans (hq.mono ch.out.size))
  clear hq
  clear hW
  go_wp2_with fail
  refine (awake_any _).mono ?_
  rintro e w23 ⟨rfl, hq⟩
  have hC := Lib.hid ((hC.out.below hq).mono hq.size)
  have hP := Lib.hid ((hP.out.below hq).mono hq.size)
  have hQ := Lib.hid ((hQ.out.below hq).mono hq.size)
  have hL := Lib.hid ((hL.out.below hq).mono hq.size)
  have h3 := Lib.hid ((h3.out.below hq).mono hq.size)
  have ch := Lib.hid (ch.out.trans (hq.mono ch.out.size))
  clear hq
  go_wp2
  go_ret
  exact ⟨rfl, ch.out⟩

set_option maxHeartbeats 8000000 in
theorem makes_t_ttt {w : World} (d : ByteArray) (hs : d.size ≤ 140737488355328) (ca : Option Addr) (cn cc : Nat) (pa : Option Addr) (pn pc : Nat) (qa : Option Addr) (qn qc : Nat) (c p q : List Ins) (hhC : InsRow w w.heap.size (.slice ca cn cc) c) (hhP : InsRow w w.heap.size (.slice pa pn pc) p) (hhQ : InsRow w w.heap.size (.slice qa qn qc) q) (HD : Hid (isTree d = true)) (HVp : Hid (validB p = true)) (HVc : Hid (validB c = true)) (HVq : Hid (validB q = true)) :
    Calls Try.prog 7 #[.string d, .slice ca cn cc, .slice pa pn pc, .slice qa qn qc] w fun e w' => e = .returned (.bool true) ∧ Below w.heap.size w w' := by
  have hC := Lib.hid hhC
  have hP := Lib.hid hhP
  have hQ := Lib.hid hhQ
  clear hhC hhP hhQ
  have kT := fun w => tvalid_at d hs true HD.out w
  have ch := Lib.hid (Below.refl w.heap.size w)
  go_enter Try.func7, Try.ntmps7
  go_wp2_with fail
  have hL0 := ProgsRow.lit (w := w) [.slice ca cn cc, .slice pa pn pc, .slice qa qn qc] [c, p, q] rfl (by simp) (fun j u l hu hl => match j, u, l, hu, hl with | 0, _, _, hu, hl => by cases hu; cases hl; exact hC.out | 1, _, _, hu, hl => by cases hu; cases hl; exact hP.out | 2, _, _, hu, hl => by cases hu; cases hl; exact hQ.out)
  obtain ⟨w1, hW⟩ : ∃ B, w.alloc (.cells #[.slice ca cn cc, .slice pa pn pc, .slice qa qn qc] 25) = B := ⟨_, rfl⟩
  rw [hW]
  have hq : Below w.heap.size w w1 := by rw [← hW]; exact (Below.refl _ _).alloc (Nat.le_refl _) _
  have hL := Lib.hid (show ProgsRow w1 w1.heap.size (.slice (some ⟨w.heap.size, 0, none⟩) 3 3) [c, p, q] by rw [← hW]; exact hL0)
  clear hW hL0
  have hC := Lib.hid ((hC.out.below hq).mono hq.size)
  have hP := Lib.hid ((hP.out.below hq).mono hq.size)
  have hQ := Lib.hid ((hQ.out.below hq).mono hq.size)
  have ch := Lib.hid (ch.out.trans (hq.mono ch.out.size))
  clear hq
  refine (copied_any _ [c, p, q] _ hL.out).mono ?_
  rintro e w2 ⟨vl, rfl, hWas, hq⟩
  have hC := Lib.hid ((hC.out.below hq).mono hq.size)
  have hP := Lib.hid ((hP.out.below hq).mono hq.size)
  have hQ := Lib.hid ((hQ.out.below hq).mono hq.size)
  have hL := Lib.hid ((hL.out.below hq).mono hq.size)
  have ch := Lib.hid (ch.out.trans (hq.mono ch.out.size))
  clear hq
  have hWas := Lib.hid hWas
  go_wp2_with fail
  refine (bConst_ok d hs HD.out _).mono ?_
  rintro e w3 ⟨aa, ac, rfl, hA, hq⟩
  have hC := Lib.hid ((hC.out.below hq).mono hq.size)
  have hP := Lib.hid ((hP.out.below hq).mono hq.size)
  have hQ := Lib.hid ((hQ.out.below hq).mono hq.size)
  have hL := Lib.hid ((hL.out.below hq).mono hq.size)
  have hWas := Lib.hid ((hWas.out.below hq).mono hq.size)
  have ch := Lib.hid (ch.out.trans (hq.mono ch.out.size))
  clear hq
  have hA := Lib.hid hA
  go_wp2_with fail
  refine (made_tb (bPair_any _ _ _ _ _ _ p q _ hP.out hQ.out)).mono ?_
  rintro e w4 ⟨vb, rfl, hB, hq⟩
  have hC := Lib.hid ((hC.out.below hq).mono hq.size)
  have hP := Lib.hid ((hP.out.below hq).mono hq.size)
  have hQ := Lib.hid ((hQ.out.below hq).mono hq.size)
  have hL := Lib.hid ((hL.out.below hq).mono hq.size)
  have hWas := Lib.hid ((hWas.out.below hq).mono hq.size)
  have hA := Lib.hid ((hA.out.below hq).mono hq.size)
  have ch := Lib.hid (ch.out.trans (hq.mono ch.out.size))
  clear hq
  have hB := Lib.hid hB
  go_wp2_with fail
  refine (made_tb (bIf_any _ _ _ _ _ _ _ _ _ c p q _ hC.out hP.out hQ.out)).mono ?_
  rintro e w5 ⟨vx, rfl, hX, hq⟩
  have hC := Lib.hid ((hC.out.below hq).mono hq.size)
  have hP := Lib.hid ((hP.out.below hq).mono hq.size)
  have hQ := Lib.hid ((hQ.out.below hq).mono hq.size)
  have hL := Lib.hid ((hL.out.below hq).mono hq.size)
  have hWas := Lib.hid ((hWas.out.below hq).mono hq.size)
  have hA := Lib.hid ((hA.out.below hq).mono hq.size)
  have hB := Lib.hid ((hB.out.below hq).mono hq.size)
  have ch := Lib.hid (ch.out.trans (hq.mono ch.out.size))
  clear hq
  have hX := Lib.hid hX
  go_wp2_with fail
  refine (made_tb (bWhile_any _ _ _ _ _ _ c p _ hC.out hP.out)).mono ?_
  rintro e w6 ⟨vy, rfl, hW, hq⟩
  have hC := Lib.hid ((hC.out.below hq).mono hq.size)
  have hP := Lib.hid ((hP.out.below hq).mono hq.size)
  have hQ := Lib.hid ((hQ.out.below hq).mono hq.size)
  have hL := Lib.hid ((hL.out.below hq).mono hq.size)
  have hWas := Lib.hid ((hWas.out.below hq).mono hq.size)
  have hA := Lib.hid ((hA.out.below hq).mono hq.size)
  have hB := Lib.hid ((hB.out.below hq).mono hq.size)
  have hX := Lib.hid ((hX.out.below hq).mono hq.size)
  have ch := Lib.hid (ch.out.trans (hq.mono ch.out.size))
  clear hq
  have hW := Lib.hid hW
  go_wp2_with fail
  refine (alike_self _ _ [c, p, q] _ hL.out hWas.out).mono ?_
  rintro e w7 ⟨rfl, hq⟩
  have hC := Lib.hid ((hC.out.below hq).mono hq.size)
  have hP := Lib.hid ((hP.out.below hq).mono hq.size)
  have hQ := Lib.hid ((hQ.out.below hq).mono hq.size)
  have hL := Lib.hid ((hL.out.below hq).mono hq.size)
  have hWas := Lib.hid ((hWas.out.below hq).mono hq.size)
  have hA := Lib.hid ((hA.out.below hq).mono hq.size)
  have hB := Lib.hid ((hB.out.below hq).mono hq.size)
  have hX := Lib.hid ((hX.out.below hq).mono hq.size)
  have hW := Lib.hid ((hW.out.below hq).mono hq.size)
  have ch := Lib.hid (ch.out.trans (hq.mono ch.out.size))
  clear hq
  clear hWas
  go_wp2_with fail
  refine (kT _).mono ?_
  rintro e w8 ⟨rfl, hq⟩
  have hC := Lib.hid ((hC.out.below hq).mono hq.size)
  have hP := Lib.hid ((hP.out.below hq).mono hq.size)
  have hQ := Lib.hid ((hQ.out.below hq).mono hq.size)
  have hL := Lib.hid ((hL.out.below hq).mono hq.size)
  have hA := Lib.hid ((hA.out.below hq).mono hq.size)
  have hB := Lib.hid ((hB.out.below hq).mono hq.size)
  have hX := Lib.hid ((hX.out.below hq).mono hq.size)
  have hW := Lib.hid ((hW.out.below hq).mono hq.size)
  have ch := Lib.hid (ch.out.trans (hq.mono ch.out.size))
  clear hq
  go_wp2_with fail
  refine (refConst_ok d hs _).mono ?_
  rintro e w9 ⟨ra, rc, rfl, hR, hq⟩
  have hC := Lib.hid ((hC.out.below hq).mono hq.size)
  have hP := Lib.hid ((hP.out.below hq).mono hq.size)
  have hQ := Lib.hid ((hQ.out.below hq).mono hq.size)
  have hL := Lib.hid ((hL.out.below hq).mono hq.size)
  have hA := Lib.hid ((hA.out.below hq).mono hq.size)
  have hB := Lib.hid ((hB.out.below hq).mono hq.size)
  have hX := Lib.hid ((hX.out.below hq).mono hq.size)
  have hW := Lib.hid ((hW.out.below hq).mono hq.size)
  have ch := Lib.hid (ch.out.trans (hq.mono ch.out.size))
  clear hq
  have hR := Lib.hid hR
  go_wp2_with fail
  refine (same_self hA.out hR.out).mono ?_
  rintro e w10 ⟨rfl, hq⟩
  have hC := Lib.hid ((hC.out.below hq).mono hq.size)
  have hP := Lib.hid ((hP.out.below hq).mono hq.size)
  have hQ := Lib.hid ((hQ.out.below hq).mono hq.size)
  have hL := Lib.hid ((hL.out.below hq).mono hq.size)
  have hA := Lib.hid ((hA.out.below hq).mono hq.size)
  have hB := Lib.hid ((hB.out.below hq).mono hq.size)
  have hX := Lib.hid ((hX.out.below hq).mono hq.size)
  have hW := Lib.hid ((hW.out.below hq).mono hq.size)
  have hR := Lib.hid ((hR.out.below hq).mono hq.size)
  have ch := Lib.hid (ch.out.trans (hq.mono ch.out.size))
  clear hq
  clear hA hR
  go_wp2_with fail
  refine (cvalid_at _ HVp.out hP.out).mono ?_
  rintro e w11 ⟨rfl, hq⟩
  have hC := Lib.hid ((hC.out.below hq).mono hq.size)
  have hP := Lib.hid ((hP.out.below hq).mono hq.size)
  have hQ := Lib.hid ((hQ.out.below hq).mono hq.size)
  have hL := Lib.hid ((hL.out.below hq).mono hq.size)
  have hB := Lib.hid ((hB.out.below hq).mono hq.size)
  have hX := Lib.hid ((hX.out.below hq).mono hq.size)
  have hW := Lib.hid ((hW.out.below hq).mono hq.size)
  have ch := Lib.hid (ch.out.trans (hq.mono ch.out.size))
  clear hq
  go_wp2_with fail
  refine (cvalid_at _ HVq.out hQ.out).mono ?_
  rintro e w12 ⟨rfl, hq⟩
  have hC := Lib.hid ((hC.out.below hq).mono hq.size)
  have hP := Lib.hid ((hP.out.below hq).mono hq.size)
  have hQ := Lib.hid ((hQ.out.below hq).mono hq.size)
  have hL := Lib.hid ((hL.out.below hq).mono hq.size)
  have hB := Lib.hid ((hB.out.below hq).mono hq.size)
  have hX := Lib.hid ((hX.out.below hq).mono hq.size)
  have hW := Lib.hid ((hW.out.below hq).mono hq.size)
  have ch := Lib.hid (ch.out.trans (hq.mono ch.out.size))
  clear hq
  go_wp2_with fail
  refine (refPair_row _ _ p q _ hP.out hQ.out HVp.out HVq.out).mono ?_
  rintro e w13 ⟨v2, rfl, h2, hq⟩
  have hC := Lib.hid ((hC.out.below hq).mono hq.size)
  have hP := Lib.hid ((hP.out.below hq).mono hq.size)
  have hQ := Lib.hid ((hQ.out.below hq).mono hq.size)
  have hL := Lib.hid ((hL.out.below hq).mono hq.size)
  have hB := Lib.hid ((hB.out.below hq).mono hq.size)
  have hX := Lib.hid ((hX.out.below hq).mono hq.size)
  have hW := Lib.hid ((hW.out.below hq).mono hq.size)
  have ch := Lib.hid (ch.out.trans (hq.mono ch.out.size))
  clear hq
  have h2 := Lib.hid h2
  go_wp2_with fail
  refine (cvalid_at _ HVc.out hC.out).mono ?_
  rintro e w14 ⟨rfl, hq⟩
  have hC := Lib.hid ((hC.out.below hq).mono hq.size)
  have hP := Lib.hid ((hP.out.below hq).mono hq.size)
  have hQ := Lib.hid ((hQ.out.below hq).mono hq.size)
  have hL := Lib.hid ((hL.out.below hq).mono hq.size)
  have hB := Lib.hid ((hB.out.below hq).mono hq.size)
  have hX := Lib.hid ((hX.out.below hq).mono hq.size)
  have hW := Lib.hid ((hW.out.below hq).mono hq.size)
  have h2 := Lib.hid ((h2.out.below hq).mono hq.size)
  have ch := Lib.hid (ch.out.trans (hq.mono ch.out.size))
  clear hq
  go_wp2_with fail
  refine (cvalid_at _ HVp.out hP.out).mono ?_
  rintro e w15 ⟨rfl, hq⟩
  have hC := Lib.hid ((hC.out.below hq).mono hq.size)
  have hP := Lib.hid ((hP.out.below hq).mono hq.size)
  have hQ := Lib.hid ((hQ.out.below hq).mono hq.size)
  have hL := Lib.hid ((hL.out.below hq).mono hq.size)
  have hB := Lib.hid ((hB.out.below hq).mono hq.size)
  have hX := Lib.hid ((hX.out.below hq).mono hq.size)
  have hW := Lib.hid ((hW.out.below hq).mono hq.size)
  have h2 := Lib.hid ((h2.out.below hq).mono hq.size)
  have ch := Lib.hid (ch.out.trans (hq.mono ch.out.size))
  clear hq
  go_wp2_with fail
  refine (refWhile_row _ _ c p _ hC.out hP.out HVc.out HVp.out).mono ?_
  rintro e w16 ⟨v3, rfl, h3, hq⟩
  have hC := Lib.hid ((hC.out.below hq).mono hq.size)
  have hP := Lib.hid ((hP.out.below hq).mono hq.size)
  have hQ := Lib.hid ((hQ.out.below hq).mono hq.size)
  have hL := Lib.hid ((hL.out.below hq).mono hq.size)
  have hB := Lib.hid ((hB.out.below hq).mono hq.size)
  have hX := Lib.hid ((hX.out.below hq).mono hq.size)
  have hW := Lib.hid ((hW.out.below hq).mono hq.size)
  have h2 := Lib.hid ((h2.out.below hq).mono hq.size)
  have ch := Lib.hid (ch.out.trans (hq.mono ch.out.size))
  clear hq
  have h3 := Lib.hid h3
  go_wp2_with fail
  refine (cvalid_at _ HVq.out hQ.out).mono ?_
  rintro e w17 ⟨rfl, hq⟩
  have hC := Lib.hid ((hC.out.below hq).mono hq.size)
  have hP := Lib.hid ((hP.out.below hq).mono hq.size)
  have hQ := Lib.hid ((hQ.out.below hq).mono hq.size)
  have hL := Lib.hid ((hL.out.below hq).mono hq.size)
  have hB := Lib.hid ((hB.out.below hq).mono hq.size)
  have hX := Lib.hid ((hX.out.below hq).mono hq.size)
  have hW := Lib.hid ((hW.out.below hq).mono hq.size)
  have h2 := Lib.hid ((h2.out.below hq).mono hq.size)
  have h3 := Lib.hid ((h3.out.below hq).mono hq.size)
  have ch := Lib.hid (ch.out.trans (hq.mono ch.out.size))
  clear hq
  go_wp2_with fail
  refine (refIf_row _ _ _ c p q _ hC.out hP.out hQ.out HVc.out HVp.out HVq.out).mono ?_
  rintro e w18 ⟨v4, rfl, h4, hq⟩
  have hC := Lib.hid ((hC.out.below hq).mono hq.size)
  have hP := Lib.hid ((hP.out.below hq).mono hq.size)
  have hQ := Lib.hid ((hQ.out.below hq).mono hq.size)
  have hL := Lib.hid ((hL.out.below hq).mono hq.size)
  have hB := Lib.hid ((hB.out.below hq).mono hq.size)
  have hX := Lib.hid ((hX.out.below hq).mono hq.size)
  have hW := Lib.hid ((hW.out.below hq).mono hq.size)
  have h2 := Lib.hid ((h2.out.below hq).mono hq.size)
  have h3 := Lib.hid ((h3.out.below hq).mono hq.size)
  have ch := Lib.hid (ch.out.trans (hq.mono ch.out.size))
  clear hq
  have h4 := Lib.hid h4
  go_wp2_with fail
  refine (due_at _ _ [p, q] (pairL p q) (pairL p q) _ (dueF_pair p q) (fun _ => rfl) (hL.out.right) h2.out).mono ?_
  rintro e w19 ⟨rfl, hq⟩
  have hC := Lib.hid ((hC.out.below hq).mono hq.size)
  have hP := Lib.hid ((hP.out.below hq).mono hq.size)
  have hQ := Lib.hid ((hQ.out.below hq).mono hq.size)
  have hL := Lib.hid ((hL.out.below hq).mono hq.size)
  have hB := Lib.hid ((hB.out.below hq).mono hq.size)
  have hX := Lib.hid ((hX.out.below hq).mono hq.size)
  have hW := Lib.hid ((hW.out.below hq).mono hq.size)
  have h2 := Lib.hid ((h2.out.below hq).mono hq.size)
  have h3 := Lib.hid ((h3.out.below hq).mono hq.size)
  have h4 := Lib.hid ((h4.out.below hq).mono hq.size)
  have ch := Lib.hid (ch.out.trans (hq.mono ch.out.size))
  clear hq
  go_wp2_with fail
  refine (told_at _ _ [p, q] (pairL p q) (pairL p q) _ (fun _ => rfl) hB.out h2.out).mono ?_
  rintro e w20 ⟨rfl, hq⟩
  have hC := Lib.hid ((hC.out.below hq).mono hq.size)
  have hP := Lib.hid ((hP.out.below hq).mono hq.size)
  have hQ := Lib.hid ((hQ.out.below hq).mono hq.size)
  have hL := Lib.hid ((hL.out.below hq).mono hq.size)
  have hB := Lib.hid ((hB.out.below hq).mono hq.size)
  have hX := Lib.hid ((hX.out.below hq).mono hq.size)
  have hW := Lib.hid ((hW.out.below hq).mono hq.size)
  have h2 := Lib.hid ((h2.out.below hq).mono hq.size)
  have h3 := Lib.hid ((h3.out.below hq).mono hq.size)
  have h4 := Lib.hid ((h4.out.below hq).mono hq.size)
  have ch := Lib.hid (ch.out.trans (hq.mono ch.out.size))
  clear hq
  clear hB
  go_wp2_with fail
  refine (due_at _ _ [c, p, q] (ifL c p q) (ifL c p q) _ (dueF_if c p q) (fun _ => rfl) (hL.out) h4.out).mono ?_
  rintro e w21 ⟨rfl, hq⟩
  have hC := Lib.hid ((hC.out.below hq).mono hq.size)
  have hP := Lib.hid ((hP.out.below hq).mono hq.size)
  have hQ := Lib.hid ((hQ.out.below hq).mono hq.size)
  have hL := Lib.hid ((hL.out.below hq).mono hq.size)
  have hX := Lib.hid ((hX.out.below hq).mono hq.size)
  have hW := Lib.hid ((hW.out.below hq).mono hq.size)
  have h2 := Lib.hid ((h2.out.below hq).mono hq.size)
  have h3 := Lib.hid ((h3.out.below hq).mono hq.size)
  have h4 := Lib.hid ((h4.out.below hq).mono hq.size)
  have ch := Lib.hid (ch.out.trans (hq.mono ch.out.size))
  clear hq
  go_wp2_with fail
  refine (told_at _ _ [c, p, q] (ifL c p q) (ifL c p q) _ (fun _ => rfl) hX.out h4.out).mono ?_
  rintro e w22 ⟨rfl, hq⟩
  have hC := Lib.hid ((hC.out.below hq).mono hq.size)
  have hP := Lib.hid ((hP.out.below hq).mono hq.size)
  have hQ := Lib.hid ((hQ.out.below hq).mono hq.size)
  have hL := Lib.hid ((hL.out.below hq).mono hq.size)
  have hX := Lib.hid ((hX.out.below hq).mono hq.size)
  have hW := Lib.hid ((hW.out.below hq).mono hq.size)
  have h2 := Lib.hid ((h2.out.below hq).mono hq.size)
  have h3 := Lib.hid ((h3.out.below hq).mono hq.size)
  have h4 := Lib.hid ((h4.out.below hq).mono hq.size)
  have ch := Lib.hid (ch.out.trans (hq.mono ch.out.size))
  clear hq
  clear hX
  go_wp2_with fail
  refine (due_at _ _ [c, p] (whileL c p) (whileL c p) _ (dueF_while c p) (fun _ => rfl) (hL.out.left) h3.out).mono ?_
  rintro e w23 ⟨rfl, hq⟩
  have hC := Lib.hid ((hC.out.below hq).mono hq.size)
  have hP := Lib.hid ((hP.out.below hq).mono hq.size)
  have hQ := Lib.hid ((hQ.out.below hq).mono hq.size)
  have hL := Lib.hid ((hL.out.below hq).mono hq.size)
  have hW := Lib.hid ((hW.out.below hq).mono hq.size)
  have h2 := Lib.hid ((h2.out.below hq).mono hq.size)
  have h3 := Lib.hid ((h3.out.below hq).mono hq.size)
  have h4 := Lib.hid ((h4.out.below hq).mono hq.size)
  have ch := Lib.hid (ch.out.trans (hq.mono ch.out.size))
  clear hq
  go_wp2_with fail
  refine (told_at _ _ [c, p] (whileL c p) (whileL c p) _ (fun _ => rfl) hW.out h3.out).mono ?_
  rintro e w24 ⟨rfl, hq⟩
  have hC := Lib.hid ((hC.out.below hq).mono hq.size)
  have hP := Lib.hid ((hP.out.below hq).mono hq.size)
  have hQ := Lib.hid ((hQ.out.below hq).mono hq.size)
  have hL := Lib.hid ((hL.out.below hq).mono hq.size)
  have hW := Lib.hid ((hW.out.below hq).mono hq.size)
  have h2 := Lib.hid ((h2.out.below hq).mono hq.size)
  have h3 := Lib.hid ((h3.out.below hq).mono hq.size)
  have h4 := Lib.hid ((h4.out.below hq).mono hq.size)
  have ch := Lib.hid (ch.out.trans (hq.mono ch.out.size))
  clear hq
  clear hW
  go_wp2_with fail
  refine (awake_any _).mono ?_
  rintro e w25 ⟨rfl, hq⟩
  have hC := Lib.hid ((hC.out.below hq).mono hq.size)
  have hP := Lib.hid ((hP.out.below hq).mono hq.size)
  have hQ := Lib.hid ((hQ.out.below hq).mono hq.size)
  have hL := Lib.hid ((hL.out.below hq).mono hq.size)
  have h2 := Lib.hid ((h2.out.below hq).mono hq.size)
  have h3 := Lib.hid ((h3.out.below hq).mono hq.size)
  have h4 := Lib.hid ((h4.out.below hq).mono hq.size)
  have ch := Lib.hid (ch.out.trans (hq.mono ch.out.size))
  clear hq
  go_wp2
  go_ret
  exact ⟨rfl, ch.out⟩


end Go.Proofs.Ytaiomcjopgnfpaa

namespace Go.Proofs.Ytaiomcjopgnfpaa
open Go.RowKit

set_option maxHeartbeats 8000000 in
theorem makes_f_ffx {w : World} (d : ByteArray) (hs : d.size ≤ 140737488355328) (ca : Option Addr) (cn cc : Nat) (pa : Option Addr) (pn pc : Nat) (qa : Option Addr) (qn qc : Nat) (c p q : List Ins) (hhC : InsRow w w.heap.size (.slice ca cn cc) c) (hhP : InsRow w w.heap.size (.slice pa pn pc) p) (hhQ : InsRow w w.heap.size (.slice qa qn qc) q) (HD : Hid (isTree d = false)) (HVp : Hid (validB p = false)) (HVc : Hid (validB c = false)) :
    Calls Try.prog 7 #[.string d, .slice ca cn cc, .slice pa pn pc, .slice qa qn qc] w fun e w' => e = .returned (.bool true) ∧ Below w.heap.size w w' := by
  have hC := Lib.hid hhC
  have hP := Lib.hid hhP
  have hQ := Lib.hid hhQ
  clear hhC hhP hhQ
  have kT := fun w => tvalid_at d hs false HD.out w
  have ch := Lib.hid (Below.refl w.heap.size w)
  go_enter Try.func7, Try.ntmps7
  go_wp2_with fail
  have hL0 := ProgsRow.lit (w := w) [.slice ca cn cc, .slice pa pn pc, .slice qa qn qc] [c, p, q] rfl (by simp) (fun j u l hu hl => match j, u, l, hu, hl with | 0, _, _, hu, hl => by cases hu; cases hl; exact hC.out | 1, _, _, hu, hl => by cases hu; cases hl; exact hP.out | 2, _, _, hu, hl => by cases hu; cases hl; exact hQ.out)
  obtain ⟨w1, hW⟩ : ∃ B, w.alloc (.cells #[.slice ca cn cc, .slice pa pn pc, .slice qa qn qc] 25) = B := ⟨_, rfl⟩
  rw [hW]
  have hq : Below w.heap.size w w1 := by rw [← hW]; exact (Below.refl _ _).alloc (Nat.le_refl _) _
  have hL := Lib.hid (show ProgsRow w1 w1.heap.size (.slice (some ⟨w.heap.size, 0, none⟩) 3 3) [c, p, q] by rw [← hW]; exact hL0)
  clear hW hL0
  have hC := Lib.hid ((hC.out.below hq).mono hq.size)
  have hP := Lib.hid ((hP.out.below hq).mono hq.size)
  have hQ := Lib.hid ((hQ.out.below hq).mono hq.size)
  have ch := Lib.hid (ch.out.trans (hq.mono ch.out.size))
  clear hq
  refine (copied_any _ [c, p, q] _ hL.out).mono ?_
  rintro e w2 ⟨vl, rfl, hWas, hq⟩
  have hC := Lib.hid ((hC.out.below hq).mono hq.size)
  have hP := Lib.hid ((hP.out.below hq).mono hq.size)
  have hQ := Lib.hid ((hQ.out.below hq).mono hq.size)
  have hL := Lib.hid ((hL.out.below hq).mono hq.size)
  have ch := Lib.hid (ch.out.trans (hq.mono ch.out.size))
  clear hq
  have hWas := Lib.hid hWas
  go_wp2_with fail
  refine (bConst_bad d hs HD.out _).mono ?_
  rintro e w3 ⟨rfl, hq⟩
  have hC := Lib.hid ((hC.out.below hq).mono hq.size)
  have hP := Lib.hid ((hP.out.below hq).mono hq.size)
  have hQ := Lib.hid ((hQ.out.below hq).mono hq.size)
  have hL := Lib.hid ((hL.out.below hq).mono hq.size)
  have hWas := Lib.hid ((hWas.out.below hq).mono hq.size)
  have ch := Lib.hid (ch.out.trans (hq.mono ch.out.size))
  clear hq
  go_wp2_with fail
  refine (made_tb (bPair_any _ _ _ _ _ _ p q _ hP.out hQ.out)).mono ?_
  rintro e w4 ⟨vb, rfl, hB, hq⟩
  have hC := Lib.hid ((hC.out.below hq).mono hq.size)
  have hP := Lib.hid ((hP.out.below hq).mono hq.size)
  have hQ := Lib.hid ((hQ.out.below hq).mono hq.size)
  have hL := Lib.hid ((hL.out.below hq).mono hq.size)
  have hWas := Lib.hid ((hWas.out.below hq).mono hq.size)
  have ch := Lib.hid (ch.out.trans (hq.mono ch.out.size))
  clear hq
  have hB := Lib.hid hB
  go_wp2_with fail
  refine (made_tb (bIf_any _ _ _ _ _ _ _ _ _ c p q _ hC.out hP.out hQ.out)).mono ?_
  rintro e w5 ⟨vx, rfl, hX, hq⟩
  have hC := Lib.hid ((hC.out.below hq).mono hq.size)
  have hP := Lib.hid ((hP.out.below hq).mono hq.size)
  have hQ := Lib.hid ((hQ.out.below hq).mono hq.size)
  have hL := Lib.hid ((hL.out.below hq).mono hq.size)
  have hWas := Lib.hid ((hWas.out.below hq).mono hq.size)
  have hB := Lib.hid ((hB.out.below hq).mono hq.size)
  have ch := Lib.hid (ch.out.trans (hq.mono ch.out.size))
  clear hq
  have hX := Lib.hid hX
  go_wp2_with fail
  refine (made_tb (bWhile_any _ _ _ _ _ _ c p _ hC.out hP.out)).mono ?_
  rintro e w6 ⟨vy, rfl, hW, hq⟩
  have hC := Lib.hid ((hC.out.below hq).mono hq.size)
  have hP := Lib.hid ((hP.out.below hq).mono hq.size)
  have hQ := Lib.hid ((hQ.out.below hq).mono hq.size)
  have hL := Lib.hid ((hL.out.below hq).mono hq.size)
  have hWas := Lib.hid ((hWas.out.below hq).mono hq.size)
  have hB := Lib.hid ((hB.out.below hq).mono hq.size)
  have hX := Lib.hid ((hX.out.below hq).mono hq.size)
  have ch := Lib.hid (ch.out.trans (hq.mono ch.out.size))
  clear hq
  have hW := Lib.hid hW
  go_wp2_with fail
  refine (alike_self _ _ [c, p, q] _ hL.out hWas.out).mono ?_
  rintro e w7 ⟨rfl, hq⟩
  have hC := Lib.hid ((hC.out.below hq).mono hq.size)
  have hP := Lib.hid ((hP.out.below hq).mono hq.size)
  have hQ := Lib.hid ((hQ.out.below hq).mono hq.size)
  have hL := Lib.hid ((hL.out.below hq).mono hq.size)
  have hWas := Lib.hid ((hWas.out.below hq).mono hq.size)
  have hB := Lib.hid ((hB.out.below hq).mono hq.size)
  have hX := Lib.hid ((hX.out.below hq).mono hq.size)
  have hW := Lib.hid ((hW.out.below hq).mono hq.size)
  have ch := Lib.hid (ch.out.trans (hq.mono ch.out.size))
  clear hq
  clear hWas
  go_wp2_with fail
  refine (kT _).mono ?_
  rintro e w8 ⟨rfl, hq⟩
  have hC := Lib.hid ((hC.out.below hq).mono hq.size)
  have hP := Lib.hid ((hP.out.below hq).mono hq.size)
  have hQ := Lib.hid ((hQ.out.below hq).mono hq.size)
  have hL := Lib.hid ((hL.out.below hq).mono hq.size)
  have hB := Lib.hid ((hB.out.below hq).mono hq.size)
  have hX := Lib.hid ((hX.out.below hq).mono hq.size)
  have hW := Lib.hid ((hW.out.below hq).mono hq.size)
  have ch := Lib.hid (ch.out.trans (hq.mono ch.out.size))
  clear hq
  go_wp2_with fail
  refine (cvalid_at _ HVp.out hP.out).mono ?_
  rintro e w9 ⟨rfl, hq⟩
  have hC := Lib.hid ((hC.out.below hq).mono hq.size)
  have hP := Lib.hid ((hP.out.below hq).mono hq.size)
  have hQ := Lib.hid ((hQ.out.below hq).mono hq.size)
  have hL := Lib.hid ((hL.out.below hq).mono hq.size)
  have hB := Lib.hid ((hB.out.below hq).mono hq.size)
  have hX := Lib.hid ((hX.out.below hq).mono hq.size)
  have hW := Lib.hid ((hW.out.below hq).mono hq.size)
  have ch := Lib.hid (ch.out.trans (hq.mono ch.out.size))
  clear hq
  go_wp2_with fail
  refine (cvalid_at _ HVc.out hC.out).mono ?_
  rintro e w10 ⟨rfl, hq⟩
  have hC := Lib.hid ((hC.out.below hq).mono hq.size)
  have hP := Lib.hid ((hP.out.below hq).mono hq.size)
  have hQ := Lib.hid ((hQ.out.below hq).mono hq.size)
  have hL := Lib.hid ((hL.out.below hq).mono hq.size)
  have hB := Lib.hid ((hB.out.below hq).mono hq.size)
  have hX := Lib.hid ((hX.out.below hq).mono hq.size)
  have hW := Lib.hid ((hW.out.below hq).mono hq.size)
  have ch := Lib.hid (ch.out.trans (hq.mono ch.out.size))
  clear hq
  have m_two := Lib.hid (show allV [p, q] = true → [] = pairL p q from fun e => by simp [allV2, HVp.out, HVc.out] at e)
  go_wp2_with fail
  refine (due_at _ _ [p, q] (pairL p q) [] _ (dueF_pair p q) m_two.out (hL.out.right) (row_nil _ _)).mono ?_
  rintro e w11 ⟨rfl, hq⟩
  have hC := Lib.hid ((hC.out.below hq).mono hq.size)
  have hP := Lib.hid ((hP.out.below hq).mono hq.size)
  have hQ := Lib.hid ((hQ.out.below hq).mono hq.size)
  have hL := Lib.hid ((hL.out.below hq).mono hq.size)
  have hB := Lib.hid ((hB.out.below hq).mono hq.size)
  have hX := Lib.hid ((hX.out.below hq).mono hq.size)
  have hW := Lib.hid ((hW.out.below hq).mono hq.size)
  have ch := Lib.hid (ch.out.trans (hq.mono ch.out.size))
  clear hq
  go_wp2_with fail
  refine (told_at _ _ [p, q] (pairL p q) [] _ m_two.out hB.out (row_nil _ _)).mono ?_
  rintro e w12 ⟨rfl, hq⟩
  have hC := Lib.hid ((hC.out.below hq).mono hq.size)
  have hP := Lib.hid ((hP.out.below hq).mono hq.size)
  have hQ := Lib.hid ((hQ.out.below hq).mono hq.size)
  have hL := Lib.hid ((hL.out.below hq).mono hq.size)
  have hB := Lib.hid ((hB.out.below hq).mono hq.size)
  have hX := Lib.hid ((hX.out.below hq).mono hq.size)
  have hW := Lib.hid ((hW.out.below hq).mono hq.size)
  have ch := Lib.hid (ch.out.trans (hq.mono ch.out.size))
  clear hq
  clear hB m_two
  have m_three := Lib.hid (show allV [c, p, q] = true → [] = ifL c p q from fun e => by simp [allV3, HVp.out, HVc.out] at e)
  go_wp2_with fail
  refine (due_at _ _ [c, p, q] (ifL c p q) [] _ (dueF_if c p q) m_three.out (hL.out) (row_nil _ _)).mono ?_
  rintro e w13 ⟨rfl, hq⟩
  have hC := Lib.hid ((hC.out.below hq).mono hq.size)
  have hP := Lib.hid ((hP.out.below hq).mono hq.size)
  have hQ := Lib.hid ((hQ.out.below hq).mono hq.size)
  have hL := Lib.hid ((hL.out.below hq).mono hq.size)
  have hX := Lib.hid ((hX.out.below hq).mono hq.size)
  have hW := Lib.hid ((hW.out.below hq).mono hq.size)
  have ch := Lib.hid (ch.out.trans (hq.mono ch.out.size))
  clear hq
  go_wp2_with fail
  refine (told_at _ _ [c, p, q] (ifL c p q) [] _ m_three.out hX.out (row_nil _ _)).mono ?_
  rintro e w14 ⟨rfl, hq⟩
  have hC := Lib.hid ((hC.out.below hq).mono hq.size)
  have hP := Lib.hid ((hP.out.below hq).mono hq.size)
  have hQ := Lib.hid ((hQ.out.below hq).mono hq.size)
  have hL := Lib.hid ((hL.out.below hq).mono hq.size)
  have hX := Lib.hid ((hX.out.below hq).mono hq.size)
  have hW := Lib.hid ((hW.out.below hq).mono hq.size)
  have ch := Lib.hid (ch.out.trans (hq.mono ch.out.size))
  clear hq
  clear hX m_three
  have m_loop := Lib.hid (show allV [c, p] = true → [] = whileL c p from fun e => by simp [allV2, HVp.out, HVc.out] at e)
  go_wp2_with fail
  refine (due_at _ _ [c, p] (whileL c p) [] _ (dueF_while c p) m_loop.out (hL.out.left) (row_nil _ _)).mono ?_
  rintro e w15 ⟨rfl, hq⟩
  have hC := Lib.hid ((hC.out.below hq).mono hq.size)
  have hP := Lib.hid ((hP.out.below hq).mono hq.size)
  have hQ := Lib.hid ((hQ.out.below hq).mono hq.size)
  have hL := Lib.hid ((hL.out.below hq).mono hq.size)
  have hW := Lib.hid ((hW.out.below hq).mono hq.size)
  have ch := Lib.hid (ch.out.trans (hq.mono ch.out.size))
  clear hq
  go_wp2_with fail
  refine (told_at _ _ [c, p] (whileL c p) [] _ m_loop.out hW.out (row_nil _ _)).mono ?_
  rintro e w16 ⟨rfl, hq⟩
  have hC := Lib.hid ((hC.out.below hq).mono hq.size)
  have hP := Lib.hid ((hP.out.below hq).mono hq.size)
  have hQ := Lib.hid ((hQ.out.below hq).mono hq.size)
  have hL := Lib.hid ((hL.out.below hq).mono hq.size)
  have hW := Lib.hid ((hW.out.below hq).mono hq.size)
  have ch := Lib.hid (ch.out.trans (hq.mono ch.out.size))
  clear hq
  clear hW m_loop
  go_wp2_with fail
  refine (awake_any _).mono ?_
  rintro e w17 ⟨rfl, hq⟩
  have hC := Lib.hid ((hC.out.below hq).mono hq.size)
  have hP := Lib.hid ((hP.out.below hq).mono hq.size)
  have hQ := Lib.hid ((hQ.out.below hq).mono hq.size)
  have hL := Lib.hid ((hL.out.below hq).mono hq.size)
  have ch := Lib.hid (ch.out.trans (hq.mono ch.out.size))
  clear hq
  go_wp2
  go_ret
  exact ⟨rfl, ch.out⟩

set_option maxHeartbeats 8000000 in
theorem makes_f_ftx {w : World} (d : ByteArray) (hs : d.size ≤ 140737488355328) (ca : Option Addr) (cn cc : Nat) (pa : Option Addr) (pn pc : Nat) (qa : Option Addr) (qn qc : Nat) (c p q : List Ins) (hhC : InsRow w w.heap.size (.slice ca cn cc) c) (hhP : InsRow w w.heap.size (.slice pa pn pc) p) (hhQ : InsRow w w.heap.size (.slice qa qn qc) q) (HD : Hid (isTree d = false)) (HVp : Hid (validB p = false)) (HVc : Hid (validB c = true)) :
    Calls Try.prog 7 #[.string d, .slice ca cn cc, .slice pa pn pc, .slice qa qn qc] w fun e w' => e = .returned (.bool true) ∧ Below w.heap.size w w' := by
  have hC := Lib.hid hhC
  have hP := Lib.hid hhP
  have hQ := Lib.hid hhQ
  clear hhC hhP hhQ
  have kT := fun w => tvalid_at d hs false HD.out w
  have ch := Lib.hid (Below.refl w.heap.size w)
  go_enter Try.func7, Try.ntmps7
  go_wp2_with fail
  have hL0 := ProgsRow.lit (w := w) [.slice ca cn cc, .slice pa pn pc, .slice qa qn qc] [c, p, q] rfl (by simp) (fun j u l hu hl => match j, u, l, hu, hl with | 0, _, _, hu, hl => by cases hu; cases hl; exact hC.out | 1, _, _, hu, hl => by cases hu; cases hl; exact hP.out | 2, _, _, hu, hl => by cases hu; cases hl; exact hQ.out)
  obtain ⟨w1, hW⟩ : ∃ B, w.alloc (.cells #[.slice ca cn cc, .slice pa pn pc, .slice qa qn qc] 25) = B := ⟨_, rfl⟩
  rw [hW]
  have hq : Below w.heap.size w w1 := by rw [← hW]; exact (Below.refl _ _).alloc (Nat.le_refl _) _
  have hL := Lib.hid (show ProgsRow w1 w1.heap.size (.slice (some ⟨w.heap.size, 0, none⟩) 3 3) [c, p, q] by rw [← hW]; exact hL0)
  clear hW hL0
  have hC := Lib.hid ((hC.out.below hq).mono hq.size)
  have hP := Lib.hid ((hP.out.below hq).mono hq.size)
  have hQ := Lib.hid ((hQ.out.below hq).mono hq.size)
  have ch := Lib.hid (ch.out.trans (hq.mono ch.out.size))
  clear hq
  refine (copied_any _ [c, p, q] _ hL.out).mono ?_
  rintro e w2 ⟨vl, rfl, hWas, hq⟩
  have hC := Lib.hid ((hC.out.below hq).mono hq.size)
  have hP := Lib.hid ((hP.out.below hq).mono hq.size)
  have hQ := Lib.hid ((hQ.out.below hq).mono hq.size)
  have hL := Lib.hid ((hL.out.below hq).mono hq.size)
  have ch := Lib.hid (ch.out.trans (hq.mono ch.out.size))
  clear hq
  have hWas := Lib.hid hWas
  go_wp2_with fail
  refine (bConst_bad d hs HD.out _).mono ?_
  rintro e w3 ⟨rfl, hq⟩
  have hC := Lib.hid ((hC.out.below hq).mono hq.size)
  have hP := Lib.hid ((hP.out.below hq).mono hq.size)
  have hQ := Lib.hid ((hQ.out.below hq).mono hq.size)
  have hL := Lib.hid ((hL.out.below hq).mono hq.size)
  have hWas := Lib.hid ((hWas.out.below hq).mono hq.size)
  have ch := Lib.hid (ch.out.trans (hq.mono ch.out.size))
  clear hq
  go_wp2_with fail
  refine (made_tb (bPair_any _ _ _ _ _ _ p q _ hP.out hQ.out)).mono ?_
  rintro e w4 ⟨vb, rfl, hB, hq⟩
  have hC := Lib.hid ((hC.out.below hq).mono hq.size)
  have hP := Lib.hid ((hP.out.below hq).mono hq.size)
  have hQ := Lib.hid ((hQ.out.below hq).mono hq.size)
  have hL := Lib.hid ((hL.out.below hq).mono hq.size)
  have hWas := Lib.hid ((hWas.out.below hq).mono hq.size)
  have ch := Lib.hid (ch.out.trans (hq.mono ch.out.size))
  clear hq
  have hB := Lib.hid hB
  go_wp2_with fail
  refine (made_tb (bIf_any _ _ _ _ _ _ _ _ _ c p q _ hC.out hP.out hQ.out)).mono ?_
  rintro e w5 ⟨vx, rfl, hX, hq⟩
  have hC := Lib.hid ((hC.out.below hq).mono hq.size)
  have hP := Lib.hid ((hP.out.below hq).mono hq.size)
  have hQ := Lib.hid ((hQ.out.below hq).mono hq.size)
  have hL := Lib.hid ((hL.out.below hq).mono hq.size)
  have hWas := Lib.hid ((hWas.out.below hq).mono hq.size)
  have hB := Lib.hid ((hB.out.below hq).mono hq.size)
  have ch := Lib.hid (ch.out.trans (hq.mono ch.out.size))
  clear hq
  have hX := Lib.hid hX
  go_wp2_with fail
  refine (made_tb (bWhile_any _ _ _ _ _ _ c p _ hC.out hP.out)).mono ?_
  rintro e w6 ⟨vy, rfl, hW, hq⟩
  have hC := Lib.hid ((hC.out.below hq).mono hq.size)
  have hP := Lib.hid ((hP.out.below hq).mono hq.size)
  have hQ := Lib.hid ((hQ.out.below hq).mono hq.size)
  have hL := Lib.hid ((hL.out.below hq).mono hq.size)
  have hWas := Lib.hid ((hWas.out.below hq).mono hq.size)
  have hB := Lib.hid ((hB.out.below hq).mono hq.size)
  have hX := Lib.hid ((hX.out.below hq).mono hq.size)
  have ch := Lib.hid (ch.out.trans (hq.mono ch.out.size))
  clear hq
  have hW := Lib.hid hW
  go_wp2_with fail
  refine (alike_self _ _ [c, p, q] _ hL.out hWas.out).mono ?_
  rintro e w7 ⟨rfl, hq⟩
  have hC := Lib.hid ((hC.out.below hq).mono hq.size)
  have hP := Lib.hid ((hP.out.below hq).mono hq.size)
  have hQ := Lib.hid ((hQ.out.below hq).mono hq.size)
  have hL := Lib.hid ((hL.out.below hq).mono hq.size)
  have hWas := Lib.hid ((hWas.out.below hq).mono hq.size)
  have hB := Lib.hid ((hB.out.below hq).mono hq.size)
  have hX := Lib.hid ((hX.out.below hq).mono hq.size)
  have hW := Lib.hid ((hW.out.below hq).mono hq.size)
  have ch := Lib.hid (ch.out.trans (hq.mono ch.out.size))
  clear hq
  clear hWas
  go_wp2_with fail
  refine (kT _).mono ?_
  rintro e w8 ⟨rfl, hq⟩
  have hC := Lib.hid ((hC.out.below hq).mono hq.size)
  have hP := Lib.hid ((hP.out.below hq).mono hq.size)
  have hQ := Lib.hid ((hQ.out.below hq).mono hq.size)
  have hL := Lib.hid ((hL.out.below hq).mono hq.size)
  have hB := Lib.hid ((hB.out.below hq).mono hq.size)
  have hX := Lib.hid ((hX.out.below hq).mono hq.size)
  have hW := Lib.hid ((hW.out.below hq).mono hq.size)
  have ch := Lib.hid (ch.out.trans (hq.mono ch.out.size))
  clear hq
  go_wp2_with fail
  refine (cvalid_at _ HVp.out hP.out).mono ?_
  rintro e w9 ⟨rfl, hq⟩
  have hC := Lib.hid ((hC.out.below hq).mono hq.size)
  have hP := Lib.hid ((hP.out.below hq).mono hq.size)
  have hQ := Lib.hid ((hQ.out.below hq).mono hq.size)
  have hL := Lib.hid ((hL.out.below hq).mono hq.size)
  have hB := Lib.hid ((hB.out.below hq).mono hq.size)
  have hX := Lib.hid ((hX.out.below hq).mono hq.size)
  have hW := Lib.hid ((hW.out.below hq).mono hq.size)
  have ch := Lib.hid (ch.out.trans (hq.mono ch.out.size))
  clear hq
  go_wp2_with fail
  refine (cvalid_at _ HVc.out hC.out).mono ?_
  rintro e w10 ⟨rfl, hq⟩
  have hC := Lib.hid ((hC.out.below hq).mono hq.size)
  have hP := Lib.hid ((hP.out.below hq).mono hq.size)
  have hQ := Lib.hid ((hQ.out.below hq).mono hq.size)
  have hL := Lib.hid ((hL.out.below hq).mono hq.size)
  have hB := Lib.hid ((hB.out.below hq).mono hq.size)
  have hX := Lib.hid ((hX.out.below hq).mono hq.size)
  have hW := Lib.hid ((hW.out.below hq).mono hq.size)
  have ch := Lib.hid (ch.out.trans (hq.mono ch.out.size))
  clear hq
  go_wp2_with fail
  refine (cvalid_at _ HVp.out hP.out).mono ?_
  rintro e w11 ⟨rfl, hq⟩
  have hC := Lib.hid ((hC.out.below hq).mono hq.size)
  have hP := Lib.hid ((hP.out.below hq).mono hq.size)
  have hQ := Lib.hid ((hQ.out.below hq).mono hq.size)
  have hL := Lib.hid ((hL.out.below hq).mono hq.size)
  have hB := Lib.hid ((hB.out.below hq).mono hq.size)
  have hX := Lib.hid ((hX.out.below hq).mono hq.size)
  have hW := Lib.hid ((hW.out.below hq).mono hq.size)
  have ch := Lib.hid (ch.out.trans (hq.mono ch.out.size))
  clear hq
  have m_two := Lib.hid (show allV [p, q] = true → [] = pairL p q from fun e => by simp [allV2, HVp.out, HVc.out] at e)
  go_wp2_with fail
  refine (due_at _ _ [p, q] (pairL p q) [] _ (dueF_pair p q) m_two.out (hL.out.right) (row_nil _ _)).mono ?_
  rintro e w12 ⟨rfl, hq⟩
  have hC := Lib.hid ((hC.out.below hq).mono hq.size)
  have hP := Lib.hid ((hP.out.below hq).mono hq.size)
  have hQ := Lib.hid ((hQ.out.below hq).mono hq.size)
  have hL := Lib.hid ((hL.out.below hq).mono hq.size)
  have hB := Lib.hid ((hB.out.below hq).mono hq.size)
  have hX := Lib.hid ((hX.out.below hq).mono hq.size)
  have hW := Lib.hid ((hW.out.below hq).mono hq.size)
  have ch := Lib.hid (ch.out.trans (hq.mono ch.out.size))
  clear hq
  go_wp2_with fail
  refine (told_at _ _ [p, q] (pairL p q) [] _ m_two.out hB.out (row_nil _ _)).mono ?_
  rintro e w13 ⟨rfl, hq⟩
  have hC := Lib.hid ((hC.out.below hq).mono hq.size)
  have hP := Lib.hid ((hP.out.below hq).mono hq.size)
  have hQ := Lib.hid ((hQ.out.below hq).mono hq.size)
  have hL := Lib.hid ((hL.out.below hq).mono hq.size)
  have hB := Lib.hid ((hB.out.below hq).mono hq.size)
  have hX := Lib.hid ((hX.out.below hq).mono hq.size)
  have hW := Lib.hid ((hW.out.below hq).mono hq.size)
  have ch := Lib.hid (ch.out.trans (hq.mono ch.out.size))
  clear hq
  clear hB m_two
  have m_three := Lib.hid (show allV [c, p, q] = true → [] = ifL c p q from fun e => by simp [allV3, HVp.out, HVc.out] at e)
  go_wp2_with fail
  refine (due_at _ _ [c, p, q] (ifL c p q) [] _ (dueF_if c p q) m_three.out (hL.out) (row_nil _ _)).mono ?_
  rintro e w14 ⟨rfl, hq⟩
  have hC := Lib.hid ((hC.out.below hq).mono hq.size)
  have hP := Lib.hid ((hP.out.below hq).mono hq.size)
  have hQ := Lib.hid ((hQ.out.below hq).mono hq.size)
  have hL := Lib.hid ((hL.out.below hq).mono hq.size)
  have hX := Lib.hid ((hX.out.below hq).mono hq.size)
  have hW := Lib.hid ((hW.out.below hq).mono hq.size)
  have ch := Lib.hid (ch.out.trans (hq.mono ch.out.size))
  clear hq
  go_wp2_with fail
  refine (told_at _ _ [c, p, q] (ifL c p q) [] _ m_three.out hX.out (row_nil _ _)).mono ?_
  rintro e w15 ⟨rfl, hq⟩
  have hC := Lib.hid ((hC.out.below hq).mono hq.size)
  have hP := Lib.hid ((hP.out.below hq).mono hq.size)
  have hQ := Lib.hid ((hQ.out.below hq).mono hq.size)
  have hL := Lib.hid ((hL.out.below hq).mono hq.size)
  have hX := Lib.hid ((hX.out.below hq).mono hq.size)
  have hW := Lib.hid ((hW.out.below hq).mono hq.size)
  have ch := Lib.hid (ch.out.trans (hq.mono ch.out.size))
  clear hq
  clear hX m_three
  have m_loop := Lib.hid (show allV [c, p] = true → [] = whileL c p from fun e => by simp [allV2, HVp.out, HVc.out] at e)
  go_wp2_with fail
  refine (due_at _ _ [c, p] (whileL c p) [] _ (dueF_while c p) m_loop.out (hL.out.left) (row_nil _ _)).mono ?_
  rintro e w16 ⟨rfl, hq⟩
  have hC := Lib.hid ((hC.out.below hq).mono hq.size)
  have hP := Lib.hid ((hP.out.below hq).mono hq.size)
  have hQ := Lib.hid ((hQ.out.below hq).mono hq.size)
  have hL := Lib.hid ((hL.out.below hq).mono hq.size)
  have hW := Lib.hid ((hW.out.below hq).mono hq.size)
  have ch := Lib.hid (ch.out.trans (hq.mono ch.out.size))
  clear hq
  go_wp2_with fail
  refine (told_at _ _ [c, p] (whileL c p) [] _ m_loop.out hW.out (row_nil _ _)).mono ?_
  rintro e w17 ⟨rfl, hq⟩
  have hC := Lib.hid ((hC.out.below hq).mono hq.size)
  have hP := Lib.hid ((hP.out.below hq).mono hq.size)
  have hQ := Lib.hid ((hQ.out.below hq).mono hq.size)
  have hL := Lib.hid ((hL.out.below hq).mono hq.size)
  have hW := Lib.hid ((hW.out.below hq).mono hq.size)
  have ch := Lib.hid (ch.out.trans (hq.mono ch.out.size))
  clear hq
  clear hW m_loop
  go_wp2_with fail
  refine (awake_any _).mono ?_
  rintro e w18 ⟨rfl, hq⟩
  have hC := Lib.hid ((hC.out.below hq).mono hq.size)
  have hP := Lib.hid ((hP.out.below hq).mono hq.size)
  have hQ := Lib.hid ((hQ.out.below hq).mono hq.size)
  have hL := Lib.hid ((hL.out.below hq).mono hq.size)
  have ch := Lib.hid (ch.out.trans (hq.mono ch.out.size))
  clear hq
  go_wp2
  go_ret
  exact ⟨rfl, ch.out⟩

set_option maxHeartbeats 8000000 in
theorem makes_f_tff {w : World} (d : ByteArray) (hs : d.size ≤ 140737488355328) (ca : Option Addr) (cn cc : Nat) (pa : Option Addr) (pn pc : Nat) (qa : Option Addr) (qn qc : Nat) (c p q : List Ins) (hhC : InsRow w w.heap.size (.slice ca cn cc) c) (hhP : InsRow w w.heap.size (.slice pa pn pc) p) (hhQ : InsRow w w.heap.size (.slice qa qn qc) q) (HD : Hid (isTree d = false)) (HVp : Hid (validB p = true)) (HVc : Hid (validB c = false)) (HVq : Hid (validB q = false)) :
    Calls Try.prog 7 #[.string d, .slice ca cn cc, .slice pa pn pc, .slice qa qn qc] w fun e w' => e = .returned (.bool true) ∧ Below w.heap.size w w' := by
  have hC := Lib.hid hhC
  have hP := Lib.hid hhP
  have hQ := Lib.hid hhQ
  clear hhC hhP hhQ
  have kT := fun w => tvalid_at d hs false HD.out w
  have ch := Lib.hid (Below.refl w.heap.size w)
  go_enter Try.func7, Try.ntmps7
  go_wp2_with fail
  have hL0 := ProgsRow.lit (w := w) [.slice ca cn cc, .slice pa pn pc, .slice qa qn qc] [c, p, q] rfl (by simp) (fun j u l hu hl => match j, u, l, hu, hl with | 0, _, _, hu, hl => by cases hu; cases hl; exact hC.out | 1, _, _, hu, hl => by cases hu; cases hl; exact hP.out | 2, _, _, hu, hl => by cases hu; cases hl; exact hQ.out)
  obtain ⟨w1, hW⟩ : ∃ B, w.alloc (.cells #[.slice ca cn cc, .slice pa pn pc, .slice qa qn qc] 25) = B := ⟨_, rfl⟩
  rw [hW]
  have hq : Below w.heap.size w w1 := by rw [← hW]; exact (Below.refl _ _).alloc (Nat.le_refl _) _
  have hL := Lib.hid (show ProgsRow w1 w1.heap.size (.slice (some ⟨w.heap.size, 0, none⟩) 3 3) [c, p, q] by rw [← hW]; exact hL0)
  clear hW hL0
  have hC := Lib.hid ((hC.out.below hq).mono hq.size)
  have hP := Lib.hid ((hP.out.below hq).mono hq.size)
  have hQ := Lib.hid ((hQ.out.below hq).mono hq.size)
  have ch := Lib.hid (ch.out.trans (hq.mono ch.out.size))
  clear hq
  refine (copied_any _ [c, p, q] _ hL.out).mono ?_
  rintro e w2 ⟨vl, rfl, hWas, hq⟩
  have hC := Lib.hid ((hC.out.below hq).mono hq.size)
  have hP := Lib.hid ((hP.out.below hq).mono hq.size)
  have hQ := Lib.hid ((hQ.out.below hq).mono hq.size)
  have hL := Lib.hid ((hL.out.below hq).mono hq.size)
  have ch := Lib.hid (ch.out.trans (hq.mono ch.out.size))
  clear hq
  have hWas := Lib.hid hWas
  go_wp2_with fail
  refine (bConst_bad d hs HD.out _).mono ?_
  rintro e w3 ⟨rfl, hq⟩
  have hC := Lib.hid ((hC.out.below hq).mono hq.size)
  have hP := Lib.hid ((hP.out.below hq).mono hq.size)
  have hQ := Lib.hid ((hQ.out.below hq).mono hq.size)
  have hL := Lib.hid ((hL.out.below hq).mono hq.size)
  have hWas := Lib.hid ((hWas.out.below hq).mono hq.size)
  have ch := Lib.hid (ch.out.trans (hq.mono ch.out.size))
  clear hq
  go_wp2_with fail
  refine (made_tb (bPair_any _ _ _ _ _ _ p q _ hP.out hQ.out)).mono ?_
  rintro e w4 ⟨vb, rfl, hB, hq⟩
  have hC := Lib.hid ((hC.out.below hq).mono hq.size)
  have hP := Lib.hid ((hP.out.below hq).mono hq.size)
  have hQ := Lib.hid ((hQ.out.below hq).mono hq.size)
  have hL := Lib.hid ((hL.out.below hq).mono hq.size)
  have hWas := Lib.hid ((hWas.out.below hq).mono hq.size)
  have ch := Lib.hid (ch.out.trans (hq.mono ch.out.size))
  clear hq
  have hB := Lib.hid hB
  go_wp2_with fail
  refine (made_tb (bIf_any _ _ _ _ _ _ _ _ _ c p q _ hC.out hP.out hQ.out)).mono ?_
  rintro e w5 ⟨vx, rfl, hX, hq⟩
  have hC := Lib.hid ((hC.out.below hq).mono hq.size)
  have hP := Lib.hid ((hP.out.below hq).mono hq.size)
  have hQ := Lib.hid ((hQ.out.below hq).mono hq.size)
  have hL := Lib.hid ((hL.out.below hq).mono hq.size)
  have hWas := Lib.hid ((hWas.out.below hq).mono hq.size)
  have hB := Lib.hid ((hB.out.below hq).mono hq.size)
  have ch := Lib.hid (ch.out.trans (hq.mono ch.out.size))
  clear hq
  have hX := Lib.hid hX
  go_wp2_with fail
  refine (made_tb (bWhile_any _ _ _ _ _ _ c p _ hC.out hP.out)).mono ?_
  rintro e w6 ⟨vy, rfl, hW, hq⟩
  have hC := Lib.hid ((hC.out.below hq).mono hq.size)
  have hP := Lib.hid ((hP.out.below hq).mono hq.size)
  have hQ := Lib.hid ((hQ.out.below hq).mono hq.size)
  have hL := Lib.hid ((hL.out.below hq).mono hq.size)
  have hWas := Lib.hid ((hWas.out.below hq).mono hq.size)
  have hB := Lib.hid ((hB.out.below hq).mono hq.size)
  have hX := Lib.hid ((hX.out.below hq).mono hq.size)
  have ch := Lib.hid (ch.out.trans (hq.mono ch.out.size))
  clear hq
  have hW := Lib.hid hW
  go_wp2_with fail
  refine (alike_self _ _ [c, p, q] _ hL.out hWas.out).mono ?_
  rintro e w7 ⟨rfl, hq⟩
  have hC := Lib.hid ((hC.out.below hq).mono hq.size)
  have hP := Lib.hid ((hP.out.below hq).mono hq.size)
  have hQ := Lib.hid ((hQ.out.below hq).mono hq.size)
  have hL := Lib.hid ((hL.out.below hq).mono hq.size)
  have hWas := Lib.hid ((hWas.out.below hq).mono hq.size)
  have hB := Lib.hid ((hB.out.below hq).mono hq.size)
  have hX := Lib.hid ((hX.out.below hq).mono hq.size)
  have hW := Lib.hid ((hW.out.below hq).mono hq.size)
  have ch := Lib.hid (ch.out.trans (hq.mono ch.out.size))
  clear hq
  clear hWas
  go_wp2_with fail
  refine (kT _).mono ?_
  rintro e w8 ⟨rfl, hq⟩
  have hC := Lib.hid ((hC.out.below hq).mono hq.size)
  have hP := Lib.hid ((hP.out.below hq).mono hq.size)
  have hQ := Lib.hid ((hQ.out.below hq).mono hq.size)
  have hL := Lib.hid ((hL.out.below hq).mono hq.size)
  have hB := Lib.hid ((hB.out.below hq).mono hq.size)
  have hX := Lib.hid ((hX.out.below hq).mono hq.size)
  have hW := Lib.hid ((hW.out.below hq).mono hq.size)
  have ch := Lib.hid (ch.out.trans (hq.mono ch.out.size))
  clear hq
  go_wp2_with fail
  refine (cvalid_at _ HVp.out hP.out).mono ?_
  rintro e w9 ⟨rfl, hq⟩
  have hC := Lib.hid ((hC.out.below hq).mono hq.size)
  have hP := Lib.hid ((hP.out.below hq).mono hq.size)
  have hQ := Lib.hid ((hQ.out.below hq).mono hq.size)
  have hL := Lib.hid ((hL.out.below hq).mono hq.size)
  have hB := Lib.hid ((hB.out.below hq).mono hq.size)
  have hX := Lib.hid ((hX.out.below hq).mono hq.size)
  have hW := Lib.hid ((hW.out.below hq).mono hq.size)
  have ch := Lib.hid (ch.out.trans (hq.mono ch.out.size))
  clear hq
  go_wp2_with fail
  refine (cvalid_at _ HVq.out hQ.out).mono ?_
  rintro e w10 ⟨rfl, hq⟩
  have hC := Lib.hid ((hC.out.below hq).mono hq.size)
  have hP := Lib.hid ((hP.out.below hq).mono hq.size)
  have hQ := Lib.hid ((hQ.out.below hq).mono hq.size)
  have hL := Lib.hid ((hL.out.below hq).mono hq.size)
  have hB := Lib.hid ((hB.out.below hq).mono hq.size)
  have hX := Lib.hid ((hX.out.below hq).mono hq.size)
  have hW := Lib.hid ((hW.out.below hq).mono hq.size)
  have ch := Lib.hid (ch.out.trans (hq.mono ch.out.size))
  clear hq
  go_wp2_with fail
  refine (cvalid_at _ HVc.out hC.out).mono ?_
  rintro e w11 ⟨rfl, hq⟩
  have hC := Lib.hid ((hC.out.below hq).mono hq.size)
  have hP := Lib.hid ((hP.out.below hq).mono hq.size)
  have hQ := Lib.hid ((hQ.out.below hq).mono hq.size)
  have hL := Lib.hid ((hL.out.below hq).mono hq.size)
  have hB := Lib.hid ((hB.out.below hq).mono hq.size)
  have hX := Lib.hid ((hX.out.below hq).mono hq.size)
  have hW := Lib.hid ((hW.out.below hq).mono hq.size)
  have ch := Lib.hid (ch.out.trans (hq.mono ch.out.size))
  clear hq
  have m_two := Lib.hid (show allV [p, q] = true → [] = pairL p q from fun e => by simp [allV2, HVp.out, HVc.out, HVq.out] at e)
  go_wp2_with fail
  refine (due_at _ _ [p, q] (pairL p q) [] _ (dueF_pair p q) m_two.out (hL.out.right) (row_nil _ _)).mono ?_
  rintro e w12 ⟨rfl, hq⟩
  have hC := Lib.hid ((hC.out.below hq).mono hq.size)
  have hP := Lib.hid ((hP.out.below hq).mono hq.size)
  have hQ := Lib.hid ((hQ.out.below hq).mono hq.size)
  have hL := Lib.hid ((hL.out.below hq).mono hq.size)
  have hB := Lib.hid ((hB.out.below hq).mono hq.size)
  have hX := Lib.hid ((hX.out.below hq).mono hq.size)
  have hW := Lib.hid ((hW.out.below hq).mono hq.size)
  have ch := Lib.hid (ch.out.trans (hq.mono ch.out.size))
  clear hq
  go_wp2_with fail
  refine (told_at _ _ [p, q] (pairL p q) [] _ m_two.out hB.out (row_nil _ _)).mono ?_
  rintro e w13 ⟨rfl, hq⟩
  have hC := Lib.hid ((hC.out.below hq).mono hq.size)
  have hP := Lib.hid ((hP.out.below hq).mono hq.size)
  have hQ := Lib.hid ((hQ.out.below hq).mono hq.size)
  have hL := Lib.hid ((hL.out.below hq).mono hq.size)
  have hB := Lib.hid ((hB.out.below hq).mono hq.size)
  have hX := Lib.hid ((hX.out.below hq).mono hq.size)
  have hW := Lib.hid ((hW.out.below hq).mono hq.size)
  have ch := Lib.hid (ch.out.trans (hq.mono ch.out.size))
  clear hq
  clear hB m_two
  have m_three := Lib.hid (show allV [c, p, q] = true → [] = ifL c p q from fun e => by simp [allV3, HVp.out, HVc.out, HVq.out] at e)
  go_wp2_with fail
  refine (due_at _ _ [c, p, q] (ifL c p q) [] _ (dueF_if c p q) m_three.out (hL.out) (row_nil _ _)).mono ?_
  rintro e w14 ⟨rfl, hq⟩
  have hC := Lib.hid ((hC.out.below hq).mono hq.size)
  have hP := Lib.hid ((hP.out.below hq).mono hq.size)
  have hQ := Lib.hid ((hQ.out.below hq).mono hq.size)
  have hL := Lib.hid ((hL.out.below hq).mono hq.size)
  have hX := Lib.hid ((hX.out.below hq).mono hq.size)
  have hW := Lib.hid ((hW.out.below hq).mono hq.size)
  have ch := Lib.hid (ch.out.trans (hq.mono ch.out.size))
  clear hq
  go_wp2_with fail
  refine (told_at _ _ [c, p, q] (ifL c p q) [] _ m_three.out hX.out (row_nil _ _)).mono ?_
  rintro e w15 ⟨rfl, hq⟩
  have hC := Lib.hid ((hC.out.below hq).mono hq.size)
  have hP := Lib.hid ((hP.out.below hq).mono hq.size)
  have hQ := Lib.hid ((hQ.out.below hq).mono hq.size)
  have hL := Lib.hid ((hL.out.below hq).mono hq.size)
  have hX := Lib.hid ((hX.out.below hq).mono hq.size)
  have hW := Lib.hid ((hW.out.below hq).mono hq.size)
  have ch := Lib.hid (ch.out.trans (hq.mono ch.out.size))
  clear hq
  clear hX m_three
  have m_loop := Lib.hid (show allV [c, p] = true → [] = whileL c p from fun e => by simp [allV2, HVp.out, HVc.out, HVq.out] at e)
  go_wp2_with fail
  refine (due_at _ _ [c, p] (whileL c p) [] _ (dueF_while c p) m_loop.out (hL.out.left) (row_nil _ _)).mono ?_
  rintro e w16 ⟨rfl, hq⟩
  have hC := Lib.hid ((hC.out.below hq).mono hq.size)
  have hP := Lib.hid ((hP.out.below hq).mono hq.size)
  have hQ := Lib.hid ((hQ.out.below hq).mono hq.size)
  have hL := Lib.hid ((hL.out.below hq).mono hq.size)
  have hW := Lib.hid ((hW.out.below hq).mono hq.size)
  have ch := Lib.hid (ch.out.trans (hq.mono ch.out.size))
  clear hq
  go_wp2_with fail
  refine (told_at _ _ [c, p] (whileL c p) [] _ m_loop.out hW.out (row_nil _ _)).mono ?_
  rintro e w17 ⟨rfl, hq⟩
  have hC := Lib.hid ((hC.out.below hq).mono hq.size)
  have hP := Lib.hid ((hP.out.below hq).mono hq.size)
  have hQ := Lib.hid ((hQ.out.below hq).mono hq.size)
  have hL := Lib.hid ((hL.out.below hq).mono hq.size)
  have hW := Lib.hid ((hW.out.below hq).mono hq.size)
  have ch := Lib.hid (ch.out.trans (hq.mono ch.out.size))
  clear hq
  clear hW m_loop
  go_wp2_with fail
  refine (awake_any _).mono ?_
  rintro e w18 ⟨rfl, hq⟩
  have hC := Lib.hid ((hC.out.below hq).mono hq.size)
  have hP := Lib.hid ((hP.out.below hq).mono hq.size)
  have hQ := Lib.hid ((hQ.out.below hq).mono hq.size)
  have hL := Lib.hid ((hL.out.below hq).mono hq.size)
  have ch := Lib.hid (ch.out.trans (hq.mono ch.out.size))
  clear hq
  go_wp2
  go_ret
  exact ⟨rfl, ch.out⟩

set_option maxHeartbeats 8000000 in
theorem makes_f_tft {w : World} (d : ByteArray) (hs : d.size ≤ 140737488355328) (ca : Option Addr) (cn cc : Nat) (pa : Option Addr) (pn pc : Nat) (qa : Option Addr) (qn qc : Nat) (c p q : List Ins) (hhC : InsRow w w.heap.size (.slice ca cn cc) c) (hhP : InsRow w w.heap.size (.slice pa pn pc) p) (hhQ : InsRow w w.heap.size (.slice qa qn qc) q) (HD : Hid (isTree d = false)) (HVp : Hid (validB p = true)) (HVc : Hid (validB c = false)) (HVq : Hid (validB q = true)) :
    Calls Try.prog 7 #[.string d, .slice ca cn cc, .slice pa pn pc, .slice qa qn qc] w fun e w' => e = .returned (.bool true) ∧ Below w.heap.size w w' := by
  have hC := Lib.hid hhC
  have hP := Lib.hid hhP
  have hQ := Lib.hid hhQ
  clear hhC hhP hhQ
  have kT := fun w => tvalid_at d hs false HD.out w
  have ch := Lib.hid (Below.refl w.heap.size w)
  go_enter Try.func7, Try.ntmps7
  go_wp2_with fail
  have hL0 := ProgsRow.lit (w := w) [.slice ca cn cc, .slice pa pn pc, .slice qa qn qc] [c, p, q] rfl (by simp) (fun j u l hu hl => match j, u, l, hu, hl with | 0, _, _, hu, hl => by cases hu; cases hl; exact hC.out | 1, _, _, hu, hl => by cases hu; cases hl; exact hP.out | 2, _, _, hu, hl => by cases hu; cases hl; exact hQ.out)
  obtain ⟨w1, hW⟩ : ∃ B, w.alloc (.cells #[.slice ca cn cc, .slice pa pn pc, .slice qa qn qc] 25) = B := ⟨_, rfl⟩
  rw [hW]
  have hq : Below w.heap.size w w1 := by rw [← hW]; exact (Below.refl _ _).alloc (Nat.le_refl _) _
  have hL := Lib.hid (show ProgsRow w1 w1.heap.size (.slice (some ⟨w.heap.size, 0, none⟩) 3 3) [c, p, q] by rw [← hW]; exact hL0)
  clear hW hL0
  have hC := Lib.hid ((hC.out.below hq).mono hq.size)
  have hP := Lib.hid ((hP.out.below hq).mono hq.size)
  have hQ := Lib.hid ((hQ.out.below hq).mono hq.size)
  have ch := Lib.hid (ch.out.trans (hq.mono ch.out.size))
  clear hq
  refine (copied_any _ [c, p, q] _ hL.out).mono ?_
  rintro e w2 ⟨vl, rfl, hWas, hq⟩
  have hC := Lib.hid ((hC.out.below hq).mono hq.size)
  have hP := Lib.hid ((hP.out.below hq).mono hq.size)
  have hQ := Lib.hid ((hQ.out.below hq).mono hq.size)
  have hL := Lib.hid ((hL.out.below hq).mono hq.size)
  have ch := Lib.hid (ch.out.trans (hq.mono ch.out.size))
  clear hq
  have hWas := Lib.hid hWas
  go_wp2_with fail
  refine (bConst_bad d hs HD.out _).mono ?_
  rintro e w3 ⟨rfl, hq⟩
  have hC := Lib.hid ((hC.out.below hq).mono hq.size)
  have hP := Lib.hid ((hP.out.below hq).mono hq.size)
  have hQ := Lib.hid ((hQ.out.below hq).mono hq.size)
  have hL := Lib.hid ((hL.out.below hq).mono hq.size)
  have hWas := Lib.hid ((hWas.out.below hq).mono hq.size)
  have ch := Lib.hid (ch.out.trans (hq.mono ch.out.size))
  clear hq
  go_wp2_with fail
  refine (made_tb (bPair_any _ _ _ _ _ _ p q _ hP.out hQ.out)).mono ?_
  rintro e w4 ⟨vb, rfl, hB, hq⟩
  have hC := Lib.hid ((hC.out.below hq).mono hq.size)
  have hP := Lib.hid ((hP.out.below hq).mono hq.size)
  have hQ := Lib.hid ((hQ.out.below hq).mono hq.size)
  have hL := Lib.hid ((hL.out.below hq).mono hq.size)
  have hWas := Lib.hid ((hWas.out.below hq).mono hq.size)
  have ch := Lib.hid (ch.out.trans (hq.mono ch.out.size))
  clear hq
  have hB := Lib.hid hB
  go_wp2_with fail
  refine (made_tb (bIf_any _ _ _ _ _ _ _ _ _ c p q _ hC.out hP.out hQ.out)).mono ?_
  rintro e w5 ⟨vx, rfl, hX, hq⟩
  have hC := Lib.hid ((hC.out.below hq).mono hq.size)
  have hP := Lib.hid ((hP.out.below hq).mono hq.size)
  have hQ := Lib.hid ((hQ.out.below hq).mono hq.size)
  have hL := Lib.hid ((hL.out.below hq).mono hq.size)
  have hWas := Lib.hid ((hWas.out.below hq).mono hq.size)
  have hB := Lib.hid ((hB.out.below hq).mono hq.size)
  have ch := Lib.hid (ch.out.trans (hq.mono ch.out.size))
  clear hq
  have hX := Lib.hid hX
  go_wp2_with fail
  refine (made_tb (bWhile_any _ _ _ _ _ _ c p _ hC.out hP.out)).mono ?_
  rintro e w6 ⟨vy, rfl, hW, hq⟩
  have hC := Lib.hid ((hC.out.below hq).mono hq.size)
  have hP := Lib.hid ((hP.out.below hq).mono hq.size)
  have hQ := Lib.hid ((hQ.out.below hq).mono hq.size)
  have hL := Lib.hid ((hL.out.below hq).mono hq.size)
  have hWas := Lib.hid ((hWas.out.below hq).mono hq.size)
  have hB := Lib.hid ((hB.out.below hq).mono hq.size)
  have hX := Lib.hid ((hX.out.below hq).mono hq.size)
  have ch := Lib.hid (ch.out.trans (hq.mono ch.out.size))
  clear hq
  have hW := Lib.hid hW
  go_wp2_with fail
  refine (alike_self _ _ [c, p, q] _ hL.out hWas.out).mono ?_
  rintro e w7 ⟨rfl, hq⟩
  have hC := Lib.hid ((hC.out.below hq).mono hq.size)
  have hP := Lib.hid ((hP.out.below hq).mono hq.size)
  have hQ := Lib.hid ((hQ.out.below hq).mono hq.size)
  have hL := Lib.hid ((hL.out.below hq).mono hq.size)
  have hWas := Lib.hid ((hWas.out.below hq).mono hq.size)
  have hB := Lib.hid ((hB.out.below hq).mono hq.size)
  have hX := Lib.hid ((hX.out.below hq).mono hq.size)
  have hW := Lib.hid ((hW.out.below hq).mono hq.size)
  have ch := Lib.hid (ch.out.trans (hq.mono ch.out.size))
  clear hq
  clear hWas
  go_wp2_with fail
  refine (kT _).mono ?_
  rintro e w8 ⟨rfl, hq⟩
  have hC := Lib.hid ((hC.out.below hq).mono hq.size)
  have hP := Lib.hid ((hP.out.below hq).mono hq.size)
  have hQ := Lib.hid ((hQ.out.below hq).mono hq.size)
  have hL := Lib.hid ((hL.out.below hq).mono hq.size)
  have hB := Lib.hid ((hB.out.below hq).mono hq.size)
  have hX := Lib.hid ((hX.out.below hq).mono hq.size)
  have hW := Lib.hid ((hW.out.below hq).mono hq.size)
  have ch := Lib.hid (ch.out.trans (hq.mono ch.out.size))
  clear hq
  go_wp2_with fail
  refine (cvalid_at _ HVp.out hP.out).mono ?_
  rintro e w9 ⟨rfl, hq⟩
  have hC := Lib.hid ((hC.out.below hq).mono hq.size)
  have hP := Lib.hid ((hP.out.below hq).mono hq.size)
  have hQ := Lib.hid ((hQ.out.below hq).mono hq.size)
  have hL := Lib.hid ((hL.out.below hq).mono hq.size)
  have hB := Lib.hid ((hB.out.below hq).mono hq.size)
  have hX := Lib.hid ((hX.out.below hq).mono hq.size)
  have hW := Lib.hid ((hW.out.below hq).mono hq.size)
  have ch := Lib.hid (ch.out.trans (hq.mono ch.out.size))
  clear hq
  go_wp2_with fail
  refine (cvalid_at _ HVq.out hQ.out).mono ?_
  rintro e w10 ⟨rfl, hq⟩
  have hC := Lib.hid ((hC.out.below hq).mono hq.size)
  have hP := Lib.hid ((hP.out.below hq).mono hq.size)
  have hQ := Lib.hid ((hQ.out.below hq).mono hq.size)
  have hL := Lib.hid ((hL.out.below hq).mono hq.size)
  have hB := Lib.hid ((hB.out.below hq).mono hq.size)
  have hX := Lib.hid ((hX.out.below hq).mono hq.size)
  have hW := Lib.hid ((hW.out.below hq).mono hq.size)
  have ch := Lib.hid (ch.out.trans (hq.mono ch.out.size))
  clear hq
  go_wp2_with fail
  refine (refPair_row _ _ p q _ hP.out hQ.out HVp.out HVq.out).mono ?_
  rintro e w11 ⟨v2, rfl, h2, hq⟩
  have hC := Lib.hid ((hC.out.below hq).mono hq.size)
  have hP := Lib.hid ((hP.out.below hq).mono hq.size)
  have hQ := Lib.hid ((hQ.out.below hq).mono hq.size)
  have hL := Lib.hid ((hL.out.below hq).mono hq.size)
  have hB := Lib.hid ((hB.out.below hq).mono hq.size)
  have hX := Lib.hid ((hX.out.below hq).mono hq.size)
  have hW := Lib.hid ((hW.out.below hq).mono hq.size)
  have ch := Lib.hid (ch.out.trans (hq.mono ch.out.size))
  clear hq
  have h2 := Lib.hid h2
  go_wp2_with fail
  refine (cvalid_at _ HVc.out hC.out).mono ?_
  rintro e w12 ⟨rfl, hq⟩
  have hC := Lib.hid ((hC.out.below hq).mono hq.size)
  have hP := Lib.hid ((hP.out.below hq).mono hq.size)
  have hQ := Lib.hid ((hQ.out.below hq).mono hq.size)
  have hL := Lib.hid ((hL.out.below hq).mono hq.size)
  have hB := Lib.hid ((hB.out.below hq).mono hq.size)
  have hX := Lib.hid ((hX.out.below hq).mono hq.size)
  have hW := Lib.hid ((hW.out.below hq).mono hq.size)
  have h2 := Lib.hid ((h2.out.below hq).mono hq.size)
  have ch := Lib.hid (ch.out.trans (hq.mono ch.out.size))
  clear hq
  go_wp2_with fail
  refine (due_at _ _ [p, q] (pairL p q) (pairL p q) _ (dueF_pair p q) (fun _ => rfl) (hL.out.right) h2.out).mono ?_
  rintro e w13 ⟨rfl, hq⟩
  have hC := Lib.hid ((hC.out.below hq).mono hq.size)
  have hP := Lib.hid ((hP.out.below hq).mono hq.size)
  have hQ := Lib.hid ((hQ.out.below hq).mono hq.size)
  have hL := Lib.hid ((hL.out.below hq).mono hq.size)
  have hB := Lib.hid ((hB.out.below hq).mono hq.size)
  have hX := Lib.hid ((hX.out.below hq).mono hq.size)
  have hW := Lib.hid ((hW.out.below hq).mono hq.size)
  have h2 := Lib.hid ((h2.out.below hq).mono hq.size)
  have ch := Lib.hid (ch.out.trans (hq.mono ch.out.size))
  clear hq
  go_wp2_with fail
  refine (told_at _ _ [p, q] (pairL p q) (pairL p q) _ (fun _ => rfl) hB.out h2.out).mono ?_
  rintro e w14 ⟨rfl, hq⟩
  have hC := Lib.hid ((hC.out.below hq).mono hq.size)
  have hP := Lib.hid ((hP.out.below hq).mono hq.size)
  have hQ := Lib.hid ((hQ.out.below hq).mono hq.size)
  have hL := Lib.hid ((hL.out.below hq).mono hq.size)
  have hB := Lib.hid ((hB.out.below hq).mono hq.size)
  have hX := Lib.hid ((hX.out.below hq).mono hq.size)
  have hW := Lib.hid ((hW.out.below hq).mono hq.size)
  have h2 := Lib.hid ((h2.out.below hq).mono hq.size)
  have ch := Lib.hid (ch.out.trans (hq.mono ch.out.size))
  clear hq
  clear hB
  have m_three := Lib.hid (show allV [c, p, q] = true → [] = ifL c p q from fun e => by simp [allV3, HVp.out, HVc.out, HVq.out] at e)
  go_wp2_with fail
  refine (due_at _ _ [c, p, q] (ifL c p q) [] _ (dueF_if c p q) m_three.out (hL.out) (row_nil _ _)).mono ?_
  rintro e w15 ⟨rfl, hq⟩
  have hC := Lib.hid ((hC.out.below hq).mono hq.size)
  have hP := Lib.hid ((hP.out.below hq).mono hq.size)
  have hQ := Lib.hid ((hQ.out.below hq).mono hq.size)
  have hL := Lib.hid ((hL.out.below hq).mono hq.size)
  have hX := Lib.hid ((hX.out.below hq).mono hq.size)
  have hW := Lib.hid ((hW.out.below hq).mono hq.size)
  have h2 := Lib.hid ((h2.out.below hq).mono hq.size)
  have ch := Lib.hid (ch.out.trans (hq.mono ch.out.size))
  clear hq
  go_wp2_with fail
  refine (told_at _ _ [c, p, q] (ifL c p q) [] _ m_three.out hX.out (row_nil _ _)).mono ?_
  rintro e w16 ⟨rfl, hq⟩
  have hC := Lib.hid ((hC.out.below hq).mono hq.size)
  have hP := Lib.hid ((hP.out.below hq).mono hq.size)
  have hQ := Lib.hid ((hQ.out.below hq).mono hq.size)
  have hL := Lib.hid ((hL.out.below hq).mono hq.size)
  have hX := Lib.hid ((hX.out.below hq).mono hq.size)
  have hW := Lib.hid ((hW.out.below hq).mono hq.size)
  have h2 := Lib.hid ((h2.out.below hq).mono hq.size)
  have ch := Lib.hid (ch.out.trans (hq.mono ch.out.size))
  clear hq
  clear hX m_three
  have m_loop := Lib.hid (show allV [c, p] = true → [] = whileL c p from fun e => by simp [allV2, HVp.out, HVc.out, HVq.out] at e)
  go_wp2_with fail
  refine (due_at _ _ [c, p] (whileL c p) [] _ (dueF_while c p) m_loop.out (hL.out.left) (row_nil _ _)).mono ?_
  rintro e w17 ⟨rfl, hq⟩
  have hC := Lib.hid ((hC.out.below hq).mono hq.size)
  have hP := Lib.hid ((hP.out.below hq).mono hq.size)
  have hQ := Lib.hid ((hQ.out.below hq).mono hq.size)
  have hL := Lib.hid ((hL.out.below hq).mono hq.size)
  have hW := Lib.hid ((hW.out.below hq).mono hq.size)
  have h2 := Lib.hid ((h2.out.below hq).mono hq.size)
  have ch := Lib.hid (ch.out.trans (hq.mono ch.out.size))
  clear hq
  go_wp2_with fail
  refine (told_at _ _ [c, p] (whileL c p) [] _ m_loop.out hW.out (row_nil _ _)).mono ?_
  rintro e w18 ⟨rfl, hq⟩
  have hC := Lib.hid ((hC.out.below hq).mono hq.size)
  have hP := Lib.hid ((hP.out.below hq).mono hq.size)
  have hQ := Lib.hid ((hQ.out.below hq).mono hq.size)
  have hL := Lib.hid ((hL.out.below hq).mono hq.size)
  have hW := Lib.hid ((hW.out.below hq).mono hq.size)
  have h2 := Lib.hid ((h2.out.below hq).mono hq.size)
  have ch := Lib.hid (ch.out.trans (hq.mono ch.out.size))
  clear hq
  clear hW m_loop
  go_wp2_with fail
  refine (awake_any _).mono ?_
  rintro e w19 ⟨rfl, hq⟩
  have hC := Lib.hid ((hC.out.below hq).mono hq.size)
  have hP := Lib.hid ((hP.out.below hq).mono hq.size)
  have hQ := Lib.hid ((hQ.out.below hq).mono hq.size)
  have hL := Lib.hid ((hL.out.below hq).mono hq.size)
  have h2 := Lib.hid ((h2.out.below hq).mono hq.size)
  have ch := Lib.hid (ch.out.trans (hq.mono ch.out.size))
  clear hq
  go_wp2
  go_ret
  exact ⟨rfl, ch.out⟩

set_option maxHeartbeats 8000000 in
theorem makes_f_ttf {w : World} (d : ByteArray) (hs : d.size ≤ 140737488355328) (ca : Option Addr) (cn cc : Nat) (pa : Option Addr) (pn pc : Nat) (qa : Option Addr) (qn qc : Nat) (c p q : List Ins) (hhC : InsRow w w.heap.size (.slice ca cn cc) c) (hhP : InsRow w w.heap.size (.slice pa pn pc) p) (hhQ : InsRow w w.heap.size (.slice qa qn qc) q) (HD : Hid (isTree d = false)) (HVp : Hid (validB p = true)) (HVc : Hid (validB c = true)) (HVq : Hid (validB q = false)) :
    Calls Try.prog 7 #[.string d, .slice ca cn cc, .slice pa pn pc, .slice qa qn qc] w fun e w' => e = .returned (.bool true) ∧ Below w.heap.size w w' := by
  have hC := Lib.hid hhC
  have hP := Lib.hid hhP
  have hQ := Lib.hid hhQ
  clear hhC hhP hhQ
  have kT := fun w => tvalid_at d hs false HD.out w
  have ch := Lib.hid (Below.refl w.heap.size w)
  go_enter Try.func7, Try.ntmps7
  go_wp2_with fail
  have hL0 := ProgsRow.lit (w := w) [.slice ca cn cc, .slice pa pn pc, .slice qa qn qc] [c, p, q] rfl (by simp) (fun j u l hu hl => match j, u, l, hu, hl with | 0, _, _, hu, hl => by cases hu; cases hl; exact hC.out | 1, _, _, hu, hl => by cases hu; cases hl; exact hP.out | 2, _, _, hu, hl => by cases hu; cases hl; exact hQ.out)
  obtain ⟨w1, hW⟩ : ∃ B, w.alloc (.cells #[.slice ca cn cc, .slice pa pn pc, .slice qa qn qc] 25) = B := ⟨_, rfl⟩
  rw [hW]
  have hq : Below w.heap.size w w1 := by rw [← hW]; exact (Below.refl _ _).alloc (Nat.le_refl _) _
  have hL := Lib.hid (show ProgsRow w1 w1.heap.size (.slice (some ⟨w.heap.size, 0, none⟩) 3 3) [c, p, q] by rw [← hW]; exact hL0)
  clear hW hL0
  have hC := Lib.hid ((hC.out.below hq).mono hq.size)
  have hP := Lib.hid ((hP.out.below hq).mono hq.size)
  have hQ := Lib.hid ((hQ.out.below hq).mono hq.size)
  have ch := Lib.hid (ch.out.trans (hq.mono ch.out.size))
  clear hq
  refine (copied_any _ [c, p, q] _ hL.out).mono ?_
  rintro e w2 ⟨vl, rfl, hWas, hq⟩
  have hC := Lib.hid ((hC.out.below hq).mono hq.size)
  have hP := Lib.hid ((hP.out.below hq).mono hq.size)
  have hQ := Lib.hid ((hQ.out.below hq).mono hq.size)
  have hL := Lib.hid ((hL.out.below hq).mono hq.size)
  have ch := Lib.hid (ch.out.trans (hq.mono ch.out.size))
  clear hq
  have hWas := Lib.hid hWas
  go_wp2_with fail
  refine (bConst_bad d hs HD.out _).mono ?_
  rintro e w3 ⟨rfl, hq⟩
  have hC := Lib.hid ((hC.out.below hq).mono hq.size)
  have hP := Lib.hid ((hP.out.below hq).mono hq.size)
  have hQ := Lib.hid ((hQ.out.below hq).mono hq.size)
  have hL := Lib.hid ((hL.out.below hq).mono hq.size)
  have hWas := Lib.hid ((hWas.out.below hq).mono hq.size)
  have ch := Lib.hid (ch.out.trans (hq.mono ch.out.size))
  clear hq
  go_wp2_with fail
  refine (made_tb (bPair_any _ _ _ _ _ _ p q _ hP.out hQ.out)).mono ?_
  rintro e w4 ⟨vb, rfl, hB, hq⟩
  have hC := Lib.hid ((hC.out.below hq).mono hq.size)
  have hP := Lib.hid ((hP.out.below hq).mono hq.size)
  have hQ := Lib.hid ((hQ.out.below hq).mono hq.size)
  have hL := Lib.hid ((hL.out.below hq).mono hq.size)
  have hWas := Lib.hid ((hWas.out.below hq).mono hq.size)
  have ch := Lib.hid (ch.out.trans (hq.mono ch.out.size))
  clear hq
  have hB := Lib.hid hB
  go_wp2_with fail
  refine (made_tb (bIf_any _ _ _ _ _ _ _ _ _ c p q _ hC.out hP.out hQ.out)).mono ?_
  rintro e w5 ⟨vx, rfl, hX, hq⟩
  have hC := Lib.hid ((hC.out.below hq).mono hq.size)
  have hP := Lib.hid ((hP.out.below hq).mono hq.size)
  have hQ := Lib.hid ((hQ.out.below hq).mono hq.size)
  have hL := Lib.hid ((hL.out.below hq).mono hq.size)
  have hWas := Lib.hid ((hWas.out.below hq).mono hq.size)
  have hB := Lib.hid ((hB.out.below hq).mono hq.size)
  have ch := Lib.hid (ch.out.trans (hq.mono ch.out.size))
  clear hq
  have hX := Lib.hid hX
  go_wp2_with fail
  refine (made_tb (bWhile_any _ _ _ _ _ _ c p _ hC.out hP.out)).mono ?_
  rintro e w6 ⟨vy, rfl, hW, hq⟩
  have hC := Lib.hid ((hC.out.below hq).mono hq.size)
  have hP := Lib.hid ((hP.out.below hq).mono hq.size)
  have hQ := Lib.hid ((hQ.out.below hq).mono hq.size)
  have hL := Lib.hid ((hL.out.below hq).mono hq.size)
  have hWas := Lib.hid ((hWas.out.below hq).mono hq.size)
  have hB := Lib.hid ((hB.out.below hq).mono hq.size)
  have hX := Lib.hid ((hX.out.below hq).mono hq.size)
  have ch := Lib.hid (ch.out.trans (hq.mono ch.out.size))
  clear hq
  have hW := Lib.hid hW
  go_wp2_with fail
  refine (alike_self _ _ [c, p, q] _ hL.out hWas.out).mono ?_
  rintro e w7 ⟨rfl, hq⟩
  have hC := Lib.hid ((hC.out.below hq).mono hq.size)
  have hP := Lib.hid ((hP.out.below hq).mono hq.size)
  have hQ := Lib.hid ((hQ.out.below hq).mono hq.size)
  have hL := Lib.hid ((hL.out.below hq).mono hq.size)
  have hWas := Lib.hid ((hWas.out.below hq).mono hq.size)
  have hB := Lib.hid ((hB.out.below hq).mono hq.size)
  have hX := Lib.hid ((hX.out.below hq).mono hq.size)
  have hW := Lib.hid ((hW.out.below hq).mono hq.size)
  have ch := Lib.hid (ch.out.trans (hq.mono ch.out.size))
  clear hq
  clear hWas
  go_wp2_with fail
  refine (kT _).mono ?_
  rintro e w8 ⟨rfl, hq⟩
  have hC := Lib.hid ((hC.out.below hq).mono hq.size)
  have hP := Lib.hid ((hP.out.below hq).mono hq.size)
  have hQ := Lib.hid ((hQ.out.below hq).mono hq.size)
  have hL := Lib.hid ((hL.out.below hq).mono hq.size)
  have hB := Lib.hid ((hB.out.below hq).mono hq.size)
  have hX := Lib.hid ((hX.out.below hq).mono hq.size)
  have hW := Lib.hid ((hW.out.below hq).mono hq.size)
  have ch := Lib.hid (ch.out.trans (hq.mono ch.out.size))
  clear hq
  go_wp2_with fail
  refine (cvalid_at _ HVp.out hP.out).mono ?_
  rintro e w9 ⟨rfl, hq⟩
  have hC := Lib.hid ((hC.out.below hq).mono hq.size)
  have hP := Lib.hid ((hP.out.below hq).mono hq.size)
  have hQ := Lib.hid ((hQ.out.below hq).mono hq.size)
  have hL := Lib.hid ((hL.out.below hq).mono hq.size)
  have hB := Lib.hid ((hB.out.below hq).mono hq.size)
  have hX := Lib.hid ((hX.out.below hq).mono hq.size)
  have hW := Lib.hid ((hW.out.below hq).mono hq.size)
  have ch := Lib.hid (ch.out.trans (hq.mono ch.out.size))
  clear hq
  go_wp2_with fail
  refine (cvalid_at _ HVq.out hQ.out).mono ?_
  rintro e w10 ⟨rfl, hq⟩
  have hC := Lib.hid ((hC.out.below hq).mono hq.size)
  have hP := Lib.hid ((hP.out.below hq).mono hq.size)
  have hQ := Lib.hid ((hQ.out.below hq).mono hq.size)
  have hL := Lib.hid ((hL.out.below hq).mono hq.size)
  have hB := Lib.hid ((hB.out.below hq).mono hq.size)
  have hX := Lib.hid ((hX.out.below hq).mono hq.size)
  have hW := Lib.hid ((hW.out.below hq).mono hq.size)
  have ch := Lib.hid (ch.out.trans (hq.mono ch.out.size))
  clear hq
  go_wp2_with fail
  refine (cvalid_at _ HVc.out hC.out).mono ?_
  rintro e w11 ⟨rfl, hq⟩
  have hC := Lib.hid ((hC.out.below hq).mono hq.size)
  have hP := Lib.hid ((hP.out.below hq).mono hq.size)
  have hQ := Lib.hid ((hQ.out.below hq).mono hq.size)
  have hL := Lib.hid ((hL.out.below hq).mono hq.size)
  have hB := Lib.hid ((hB.out.below hq).mono hq.size)
  have hX := Lib.hid ((hX.out.below hq).mono hq.size)
  have hW := Lib.hid ((hW.out.below hq).mono hq.size)
  have ch := Lib.hid (ch.out.trans (hq.mono ch.out.size))
  clear hq
  go_wp2_with fail
  refine (cvalid_at _ HVp.out hP.out).mono ?_
  rintro e w12 ⟨rfl, hq⟩
  have hC := Lib.hid ((hC.out.below hq).mono hq.size)
  have hP := Lib.hid ((hP.out.below hq).mono hq.size)
  have hQ := Lib.hid ((hQ.out.below hq).mono hq.size)
  have hL := Lib.hid ((hL.out.below hq).mono hq.size)
  have hB := Lib.hid ((hB.out.below hq).mono hq.size)
  have hX := Lib.hid ((hX.out.below hq).mono hq.size)
  have hW := Lib.hid ((hW.out.below hq).mono hq.size)
  have ch := Lib.hid (ch.out.trans (hq.mono ch.out.size))
  clear hq
  go_wp2_with fail
  refine (refWhile_row _ _ c p _ hC.out hP.out HVc.out HVp.out).mono ?_
  rintro e w13 ⟨v3, rfl, h3, hq⟩
  have hC := Lib.hid ((hC.out.below hq).mono hq.size)
  have hP := Lib.hid ((hP.out.below hq).mono hq.size)
  have hQ := Lib.hid ((hQ.out.below hq).mono hq.size)
  have hL := Lib.hid ((hL.out.below hq).mono hq.size)
  have hB := Lib.hid ((hB.out.below hq).mono hq.size)
  have hX := Lib.hid ((hX.out.below hq).mono hq.size)
  have hW := Lib.hid ((hW.out.below hq).mono hq.size)
  have ch := Lib.hid (ch.out.trans (hq.mono ch.out.size))
  clear hq
  have h3 := Lib.hid h3
  go_wp2_with fail
  refine (cvalid_at _ HVq.out hQ.out).mono ?_
  rintro e w14 ⟨rfl, hq⟩
  have hC := Lib.hid ((hC.out.below hq).mono hq.size)
  have hP := Lib.hid ((hP.out.below hq).mono hq.size)
  have hQ := Lib.hid ((hQ.out.below hq).mono hq.size)
  have hL := Lib.hid ((hL.out.below hq).mono hq.size)
  have hB := Lib.hid ((hB.out.below hq).mono hq.size)
  have hX := Lib.hid ((hX.out.below hq).mono hq.size)
  have hW := Lib.hid ((hW.out.below hq).mono hq.size)
  have h3 := Lib.hid ((h3.out.below hq).mono hq.size)
  have ch := Lib.hid (ch.out.trans (hq.mono ch.out.size))
  clear hq
  have m_two := Lib.hid (show allV [p, q] = true → [] = pairL p q from fun e => by simp [allV2, HVp.out, HVc.out, HVq.out] at e)
  go_wp2_with fail
  refine (due_at _ _ [p, q] (pairL p q) [] _ (dueF_pair p q) m_two.out (hL.out.right) (row_nil _ _)).mono ?_
  rintro e w15 ⟨rfl, hq⟩
  have hC := Lib.hid ((hC.out.below hq).mono hq.size)
  have hP := Lib.hid ((hP.out.below hq).mono hq.size)
  have hQ := Lib.hid ((hQ.out.below hq).mono hq.size)
  have hL := Lib.hid ((hL.out.below hq).mono hq.size)
  have hB := Lib.hid ((hB.out.below hq).mono hq.size)
  have hX := Lib.hid ((hX.out.below hq).mono hq.size)
  have hW := Lib.hid ((hW.out.below hq).mono hq.size)
  have h3 := Lib.hid ((h3.out.below hq).mono hq.size)
  have ch := Lib.hid (ch.out.trans (hq.mono ch.out.size))
  clear hq
  go_wp2_with fail
  refine (told_at _ _ [p, q] (pairL p q) [] _ m_two.out hB.out (row_nil _ _)).mono ?_
  rintro e w16 ⟨rfl, hq⟩
  have hC := Lib.hid ((hC.out.below hq).mono hq.size)
  have hP := Lib.hid ((hP.out.below hq).mono hq.size)
  have hQ := Lib.hid ((hQ.out.below hq).mono hq.size)
  have hL := Lib.hid ((hL.out.below hq).mono hq.size)
  have hB := Lib.hid ((hB.out.below hq).mono hq.size)
  have hX := Lib.hid ((hX.out.below hq).mono hq.size)
  have hW := Lib.hid ((hW.out.below hq).mono hq.size)
  have h3 := Lib.hid ((h3.out.below hq).mono hq.size)
  have ch := Lib.hid (ch.out.trans (hq.mono ch.out.size))
  clear hq
  clear hB m_two
  have m_three := Lib.hid (show allV [c, p, q] = true → [] = ifL c p q from fun e => by simp [allV3, HVp.out, HVc.out, HVq.out] at e)
  go_wp2_with fail
  refine (due_at _ _ [c, p, q] (ifL c p q) [] _ (dueF_if c p q) m_three.out (hL.out) (row_nil _ _)).mono ?_
  rintro e w17 ⟨rfl, hq⟩
  have hC := Lib.hid ((hC.out.below hq).mono hq.size)
  have hP := Lib.hid ((hP.out.below hq).mono hq.size)
  have hQ := Lib.hid ((hQ.out.below hq).mono hq.size)
  have hL := Lib.hid ((hL.out.below hq).mono hq.size)
  have hX := Lib.hid ((hX.out.below hq).mono hq.size)
  have hW := Lib.hid ((hW.out.below hq).mono hq.size)
  have h3 := Lib.hid ((h3.out.below hq).mono hq.size)
  have ch := Lib.hid (ch.out.trans (hq.mono ch.out.size))
  clear hq
  go_wp2_with fail
  refine (told_at _ _ [c, p, q] (ifL c p q) [] _ m_three.out hX.out (row_nil _ _)).mono ?_
  rintro e w18 ⟨rfl, hq⟩
  have hC := Lib.hid ((hC.out.below hq).mono hq.size)
  have hP := Lib.hid ((hP.out.below hq).mono hq.size)
  have hQ := Lib.hid ((hQ.out.below hq).mono hq.size)
  have hL := Lib.hid ((hL.out.below hq).mono hq.size)
  have hX := Lib.hid ((hX.out.below hq).mono hq.size)
  have hW := Lib.hid ((hW.out.below hq).mono hq.size)
  have h3 := Lib.hid ((h3.out.below hq).mono hq.size)
  have ch := Lib.hid (ch.out.trans (hq.mono ch.out.size))
  clear hq
  clear hX m_three
  go_wp2_with fail
  refine (due_at _ _ [c, p] (whileL c p) (whileL c p) _ (dueF_while c p) (fun _ => rfl) (hL.out.left) h3.out).mono ?_
  rintro e w19 ⟨rfl, hq⟩
  have hC := Lib.hid ((hC.out.below hq).mono hq.size)
  have hP := Lib.hid ((hP.out.below hq).mono hq.size)
  have hQ := Lib.hid ((hQ.out.below hq).mono hq.size)
  have hL := Lib.hid ((hL.out.below hq).mono hq.size)
  have hW := Lib.hid ((hW.out.below hq).mono hq.size)
  have h3 := Lib.hid ((h3.out.below hq).mono hq.size)
  have ch := Lib.hid (ch.out.trans (hq.mono ch.out.size))
  clear hq
  go_wp2_with fail
  refine (told_at _ _ [c, p] (whileL c p) (whileL c p) _ (fun _ => rfl) hW.out h3.out).mono ?_
  rintro e w20 ⟨rfl, hq⟩
  have hC := Lib.hid ((hC.out.below hq).mono hq.size)
  have hP := Lib.hid ((hP.out.below hq).mono hq.size)
  have hQ := Lib.hid ((hQ.out.below hq).mono hq.size)
  have hL := Lib.hid ((hL.out.below hq).mono hq.size)
  have hW := Lib.hid ((hW.out.below hq).mono hq.size)
  have h3 := Lib.hid ((h3.out.below hq).mono hq.size)
  have ch := Lib.hid (ch.out.trans (hq.mono ch.out.size))
  clear hq
  clear hW
  go_wp2_with fail
  refine (awake_any _).mono ?_
  rintro e w21 ⟨rfl, hq⟩
  have hC := Lib.hid ((hC.out.below hq).mono hq.size)
  have hP := Lib.hid ((hP.out.below hq).mono hq.size)
  have hQ := Lib.hid ((hQ.out.below hq).mono hq.size)
  have hL := Lib.hid ((hL.out.below hq).mono hq.size)
  have h3 := Lib.hid ((h3.out.below hq).mono hq.size)
  have ch := Lib.hid (ch.out.trans (hq.mono ch.out.size))
  clear hq
  go_wp2
  go_ret
  exact ⟨rfl, ch.out⟩

set_option maxHeartbeats 8000000 in
theorem makes_f_ttt {w : World} (d : ByteArray) (hs : d.size ≤ 140737488355328) (ca : Option Addr) (cn cc : Nat) (pa : Option Addr) (pn pc : Nat) (qa : Option Addr) (qn qc : Nat) (c p q : List Ins) (hhC : InsRow w w.heap.size (.slice ca cn cc) c) (hhP : InsRow w w.heap.size (.slice pa pn pc) p) (hhQ : InsRow w w.heap.size (.slice qa qn qc) q) (HD : Hid (isTree d = false)) (HVp : Hid (validB p = true)) (HVc : Hid (validB c = true)) (HVq : Hid (validB q = true)) :
    Calls Try.prog 7 #[.string d, .slice ca cn cc, .slice pa pn pc, .slice qa qn qc] w fun e w' => e = .returned (.bool true) ∧ Below w.heap.size w w' := by
  have hC := Lib.hid hhC
  have hP := Lib.hid hhP
  have hQ := Lib.hid hhQ
  clear hhC hhP hhQ
  have kT := fun w => tvalid_at d hs false HD.out w
  have ch := Lib.hid (Below.refl w.heap.size w)
  go_enter Try.func7, Try.ntmps7
  go_wp2_with fail
  have hL0 := ProgsRow.lit (w := w) [.slice ca cn cc, .slice pa pn pc, .slice qa qn qc] [c, p, q] rfl (by simp) (fun j u l hu hl => match j, u, l, hu, hl with | 0, _, _, hu, hl => by cases hu; cases hl; exact hC.out | 1, _, _, hu, hl => by cases hu; cases hl; exact hP.out | 2, _, _, hu, hl => by cases hu; cases hl; exact hQ.out)
  obtain ⟨w1, hW⟩ : ∃ B, w.alloc (.cells #[.slice ca cn cc, .slice pa pn pc, .slice qa qn qc] 25) = B := ⟨_, rfl⟩
  rw [hW]
  have hq : Below w.heap.size w w1 := by rw [← hW]; exact (Below.refl _ _).alloc (Nat.le_refl _) _
  have hL := Lib.hid (show ProgsRow w1 w1.heap.size (.slice (some ⟨w.heap.size, 0, none⟩) 3 3) [c, p, q] by rw [← hW]; exact hL0)
  clear hW hL0
  have hC := Lib.hid ((hC.out.below hq).mono hq.size)
  have hP := Lib.hid ((hP.out.below hq).mono hq.size)
  have hQ := Lib.hid ((hQ.out.below hq).mono hq.size)
  have ch := Lib.hid (ch.out.trans (hq.mono ch.out.size))
  clear hq
  refine (copied_any _ [c, p, q] _ hL.out).mono ?_
  rintro e w2 ⟨vl, rfl, hWas, hq⟩
  have hC := Lib.hid ((hC.out.below hq).mono hq.size)
  have hP := Lib.hid ((hP.out.below hq).mono hq.size)
  have hQ := Lib.hid ((hQ.out.below hq).mono hq.size)
  have hL := Lib.hid ((hL.out.below hq).mono hq.size)
  have ch := Lib.hid (ch.out.trans (hq.mono ch.out.size))
  clear hq
  have hWas := Lib.hid hWas
  go_wp2_with fail
  refine (bConst_bad d hs HD.out _).mono ?_
  rintro e w3 ⟨rfl, hq⟩
  have hC := Lib.hid ((hC.out.below hq).mono hq.size)
  have hP := Lib.hid ((hP.out.below hq).mono hq.size)
  have hQ := Lib.hid ((hQ.out.below hq).mono hq.size)
  have hL := Lib.hid ((hL.out.below hq).mono hq.size)
  have hWas := Lib.hid ((hWas.out.below hq).mono hq.size)
  have ch := Lib.hid (ch.out.trans (hq.mono ch.out.size))
  clear hq
  go_wp2_with fail
  refine (made_tb (bPair_any _ _ _ _ _ _ p q _ hP.out hQ.out)).mono ?_
  rintro e w4 ⟨vb, rfl, hB, hq⟩
  have hC := Lib.hid ((hC.out.below hq).mono hq.size)
  have hP := Lib.hid ((hP.out.below hq).mono hq.size)
  have hQ := Lib.hid ((hQ.out.below hq).mono hq.size)
  have hL := Lib.hid ((hL.out.below hq).mono hq.size)
  have hWas := Lib.hid ((hWas.out.below hq).mono hq.size)
  have ch := Lib.hid (ch.out.trans (hq.mono ch.out.size))
  clear hq
  have hB := Lib.hid hB
  go_wp2_with fail
  refine (made_tb (bIf_any _ _ _ _ _ _ _ _ _ c p q _ hC.out hP.out hQ.out)).mono ?_
  rintro e w5 ⟨vx, rfl, hX, hq⟩
  have hC := Lib.hid ((hC.out.below hq).mono hq.size)
  have hP := Lib.hid ((hP.out.below hq).mono hq.size)
  have hQ := Lib.hid ((hQ.out.below hq).mono hq.size)
  have hL := Lib.hid ((hL.out.below hq).mono hq.size)
  have hWas := Lib.hid ((hWas.out.below hq).mono hq.size)
  have hB := Lib.hid ((hB.out.below hq).mono hq.size)
  have ch := Lib.hid (ch.out.trans (hq.mono ch.out.size))
  clear hq
  have hX := Lib.hid hX
  go_wp2_with fail
  refine (made_tb (bWhile_any _ _ _ _ _ _ c p _ hC.out hP.out)).mono ?_
  rintro e w6 ⟨vy, rfl, hW, hq⟩
  have hC := Lib.hid ((hC.out.below hq).mono hq.size)
  have hP := Lib.hid ((hP.out.below hq).mono hq.size)
  have hQ := Lib.hid ((hQ.out.below hq).mono hq.size)
  have hL := Lib.hid ((hL.out.below hq).mono hq.size)
  have hWas := Lib.hid ((hWas.out.below hq).mono hq.size)
  have hB := Lib.hid ((hB.out.below hq).mono hq.size)
  have hX := Lib.hid ((hX.out.below hq).mono hq.size)
  have ch := Lib.hid (ch.out.trans (hq.mono ch.out.size))
  clear hq
  have hW := Lib.hid hW
  go_wp2_with fail
  refine (alike_self _ _ [c, p, q] _ hL.out hWas.out).mono ?_
  rintro e w7 ⟨rfl, hq⟩
  have hC := Lib.hid ((hC.out.below hq).mono hq.size)
  have hP := Lib.hid ((hP.out.below hq).mono hq.size)
  have hQ := Lib.hid ((hQ.out.below hq).mono hq.size)
  have hL := Lib.hid ((hL.out.below hq).mono hq.size)
  have hWas := Lib.hid ((hWas.out.below hq).mono hq.size)
  have hB := Lib.hid ((hB.out.below hq).mono hq.size)
  have hX := Lib.hid ((hX.out.below hq).mono hq.size)
  have hW := Lib.hid ((hW.out.below hq).mono hq.size)
  have ch := Lib.hid (ch.out.trans (hq.mono ch.out.size))
  clear hq
  clear hWas
  go_wp2_with fail
  refine (kT _).mono ?_
  rintro e w8 ⟨rfl, hq⟩
  have hC := Lib.hid ((hC.out.below hq).mono hq.size)
  have hP := Lib.hid ((hP.out.below hq).mono hq.size)
  have hQ := Lib.hid ((hQ.out.below hq).mono hq.size)
  have hL := Lib.hid ((hL.out.below hq).mono hq.size)
  have hB := Lib.hid ((hB.out.below hq).mono hq.size)
  have hX := Lib.hid ((hX.out.below hq).mono hq.size)
  have hW := Lib.hid ((hW.out.below hq).mono hq.size)
  have ch := Lib.hid (ch.out.trans (hq.mono ch.out.size))
  clear hq
  go_wp2_with fail
  refine (cvalid_at _ HVp.out hP.out).mono ?_
  rintro e w9 ⟨rfl, hq⟩
  have hC := Lib.hid ((hC.out.below hq).mono hq.size)
  have hP := Lib.hid ((hP.out.below hq).mono hq.size)
  have hQ := Lib.hid ((hQ.out.below hq).mono hq.size)
  have hL := Lib.hid ((hL.out.below hq).mono hq.size)
  have hB := Lib.hid ((hB.out.below hq).mono hq.size)
  have hX := Lib.hid ((hX.out.below hq).mono hq.size)
  have hW := Lib.hid ((hW.out.below hq).mono hq.size)
  have ch := Lib.hid (ch.out.trans (hq.mono ch.out.size))
  clear hq
  go_wp2_with fail
  refine (cvalid_at _ HVq.out hQ.out).mono ?_
  rintro e w10 ⟨rfl, hq⟩
  have hC := Lib.hid ((hC.out.below hq).mono hq.size)
  have hP := Lib.hid ((hP.out.below hq).mono hq.size)
  have hQ := Lib.hid ((hQ.out.below hq).mono hq.size)
  have hL := Lib.hid ((hL.out.below hq).mono hq.size)
  have hB := Lib.hid ((hB.out.below hq).mono hq.size)
  have hX := Lib.hid ((hX.out.below hq).mono hq.size)
  have hW := Lib.hid ((hW.out.below hq).mono hq.size)
  have ch := Lib.hid (ch.out.trans (hq.mono ch.out.size))
  clear hq
  go_wp2_with fail
  refine (refPair_row _ _ p q _ hP.out hQ.out HVp.out HVq.out).mono ?_
  rintro e w11 ⟨v2, rfl, h2, hq⟩
  have hC := Lib.hid ((hC.out.below hq).mono hq.size)
  have hP := Lib.hid ((hP.out.below hq).mono hq.size)
  have hQ := Lib.hid ((hQ.out.below hq).mono hq.size)
  have hL := Lib.hid ((hL.out.below hq).mono hq.size)
  have hB := Lib.hid ((hB.out.below hq).mono hq.size)
  have hX := Lib.hid ((hX.out.below hq).mono hq.size)
  have hW := Lib.hid ((hW.out.below hq).mono hq.size)
  have ch := Lib.hid (ch.out.trans (hq.mono ch.out.size))
  clear hq
  have h2 := Lib.hid h2
  go_wp2_with fail
  refine (cvalid_at _ HVc.out hC.out).mono ?_
  rintro e w12 ⟨rfl, hq⟩
  have hC := Lib.hid ((hC.out.below hq).mono hq.size)
  have hP := Lib.hid ((hP.out.below hq).mono hq.size)
  have hQ := Lib.hid ((hQ.out.below hq).mono hq.size)
  have hL := Lib.hid ((hL.out.below hq).mono hq.size)
  have hB := Lib.hid ((hB.out.below hq).mono hq.size)
  have hX := Lib.hid ((hX.out.below hq).mono hq.size)
  have hW := Lib.hid ((hW.out.below hq).mono hq.size)
  have h2 := Lib.hid ((h2.out.below hq).mono hq.size)
  have ch := Lib.hid (ch.out.trans (hq.mono ch.out.size))
  clear hq
  go_wp2_with fail
  refine (cvalid_at _ HVp.out hP.out).mono ?_
  rintro e w13 ⟨rfl, hq⟩
  have hC := Lib.hid ((hC.out.below hq).mono hq.size)
  have hP := Lib.hid ((hP.out.below hq).mono hq.size)
  have hQ := Lib.hid ((hQ.out.below hq).mono hq.size)
  have hL := Lib.hid ((hL.out.below hq).mono hq.size)
  have hB := Lib.hid ((hB.out.below hq).mono hq.size)
  have hX := Lib.hid ((hX.out.below hq).mono hq.size)
  have hW := Lib.hid ((hW.out.below hq).mono hq.size)
  have h2 := Lib.hid ((h2.out.below hq).mono hq.size)
  have ch := Lib.hid (ch.out.trans (hq.mono ch.out.size))
  clear hq
  go_wp2_with fail
  refine (refWhile_row _ _ c p _ hC.out hP.out HVc.out HVp.out).mono ?_
  rintro e w14 ⟨v3, rfl, h3, hq⟩
  have hC := Lib.hid ((hC.out.below hq).mono hq.size)
  have hP := Lib.hid ((hP.out.below hq).mono hq.size)
  have hQ := Lib.hid ((hQ.out.below hq).mono hq.size)
  have hL := Lib.hid ((hL.out.below hq).mono hq.size)
  have hB := Lib.hid ((hB.out.below hq).mono hq.size)
  have hX := Lib.hid ((hX.out.below hq).mono hq.size)
  have hW := Lib.hid ((hW.out.below hq).mono hq.size)
  have h2 := Lib.hid ((h2.out.below hq).mono hq.size)
  have ch := Lib.hid (ch.out.trans (hq.mono ch.out.size))
  clear hq
  have h3 := Lib.hid h3
  go_wp2_with fail
  refine (cvalid_at _ HVq.out hQ.out).mono ?_
  rintro e w15 ⟨rfl, hq⟩
  have hC := Lib.hid ((hC.out.below hq).mono hq.size)
  have hP := Lib.hid ((hP.out.below hq).mono hq.size)
  have hQ := Lib.hid ((hQ.out.below hq).mono hq.size)
  have hL := Lib.hid ((hL.out.below hq).mono hq.size)
  have hB := Lib.hid ((hB.out.below hq).mono hq.size)
  have hX := Lib.hid ((hX.out.below hq).mono hq.size)
  have hW := Lib.hid ((hW.out.below hq).mono hq.size)
  have h2 := Lib.hid ((h2.out.below hq).mono hq.size)
  have h3 := Lib.hid ((h3.out.below hq).mono hq.size)
  have ch := Lib.hid (ch.out.trans (hq.mono ch.out.size))
  clear hq
  go_wp2_with fail
  refine (refIf_row _ _ _ c p q _ hC.out hP.out hQ.out HVc.out HVp.out HVq.out).mono ?_
  rintro e w16 ⟨v4, rfl, h4, hq⟩
  have hC := Lib.hid ((hC.out.below hq).mono hq.size)
  have hP := Lib.hid ((hP.out.below hq).mono hq.size)
  have hQ := Lib.hid ((hQ.out.below hq).mono hq.size)
  have hL := Lib.hid ((hL.out.below hq).mono hq.size)
  have hB := Lib.hid ((hB.out.below hq).mono hq.size)
  have hX := Lib.hid ((hX.out.below hq).mono hq.size)
  have hW := Lib.hid ((hW.out.below hq).mono hq.size)
  have h2 := Lib.hid ((h2.out.below hq).mono hq.size)
  have h3 := Lib.hid ((h3.out.below hq).mono hq.size)
  have ch := Lib.hid (ch.out.trans (hq.mono ch.out.size))
  clear hq
  have h4 := Lib.hid h4
  go_wp2_with fail
  refine (due_at _ _ [p, q] (pairL p q) (pairL p q) _ (dueF_pair p q) (fun _ => rfl) (hL.out.right) h2.out).mono ?_
  rintro e w17 ⟨rfl, hq⟩
  have hC := Lib.hid ((hC.out.below hq).mono hq.size)
  have hP := Lib.hid ((hP.out.below hq).mono hq.size)
  have hQ := Lib.hid ((hQ.out.below hq).mono hq.size)
  have hL := Lib.hid ((hL.out.below hq).mono hq.size)
  have hB := Lib.hid ((hB.out.below hq).mono hq.size)
  have hX := Lib.hid ((hX.out.below hq).mono hq.size)
  have hW := Lib.hid ((hW.out.below hq).mono hq.size)
  have h2 := Lib.hid ((h2.out.below hq).mono hq.size)
  have h3 := Lib.hid ((h3.out.below hq).mono hq.size)
  have h4 := Lib.hid ((h4.out.below hq).mono hq.size)
  have ch := Lib.hid (ch.out.trans (hq.mono ch.out.size))
  clear hq
  go_wp2_with fail
  refine (told_at _ _ [p, q] (pairL p q) (pairL p q) _ (fun _ => rfl) hB.out h2.out).mono ?_
  rintro e w18 ⟨rfl, hq⟩
  have hC := Lib.hid ((hC.out.below hq).mono hq.size)
  have hP := Lib.hid ((hP.out.below hq).mono hq.size)
  have hQ := Lib.hid ((hQ.out.below hq).mono hq.size)
  have hL := Lib.hid ((hL.out.below hq).mono hq.size)
  have hB := Lib.hid ((hB.out.below hq).mono hq.size)
  have hX := Lib.hid ((hX.out.below hq).mono hq.size)
  have hW := Lib.hid ((hW.out.below hq).mono hq.size)
  have h2 := Lib.hid ((h2.out.below hq).mono hq.size)
  have h3 := Lib.hid ((h3.out.below hq).mono hq.size)
  have h4 := Lib.hid ((h4.out.below hq).mono hq.size)
  have ch := Lib.hid (ch.out.trans (hq.mono ch.out.size))
  clear hq
  clear hB
  go_wp2_with fail
  refine (due_at _ _ [c, p, q] (ifL c p q) (ifL c p q) _ (dueF_if c p q) (fun _ => rfl) (hL.out) h4.out).mono ?_
  rintro e w19 ⟨rfl, hq⟩
  have hC := Lib.hid ((hC.out.below hq).mono hq.size)
  have hP := Lib.hid ((hP.out.below hq).mono hq.size)
  have hQ := Lib.hid ((hQ.out.below hq).mono hq.size)
  have hL := Lib.hid ((hL.out.below hq).mono hq.size)
  have hX := Lib.hid ((hX.out.below hq).mono hq.size)
  have hW := Lib.hid ((hW.out.below hq).mono hq.size)
  have h2 := Lib.hid ((h2.out.below hq).mono hq.size)
  have h3 := Lib.hid ((h3.out.below hq).mono hq.size)
  have h4 := Lib.hid ((h4.out.below hq).mono hq.size)
  have ch := Lib.hid (ch.out.trans (hq.mono ch.out.size))
  clear hq
  go_wp2_with fail
  refine (told_at _ _ [c, p, q] (ifL c p q) (ifL c p q) _ (fun _ => rfl) hX.out h4.out).mono ?_
  rintro e w20 ⟨rfl, hq⟩
  have hC := Lib.hid ((hC.out.below hq).mono hq.size)
  have hP := Lib.hid ((hP.out.below hq).mono hq.size)
  have hQ := Lib.hid ((hQ.out.below hq).mono hq.size)
  have hL := Lib.hid ((hL.out.below hq).mono hq.size)
  have hX := Lib.hid ((hX.out.below hq).mono hq.size)
  have hW := Lib.hid ((hW.out.below hq).mono hq.size)
  have h2 := Lib.hid ((h2.out.below hq).mono hq.size)
  have h3 := Lib.hid ((h3.out.below hq).mono hq.size)
  have h4 := Lib.hid ((h4.out.below hq).mono hq.size)
  have ch := Lib.hid (ch.out.trans (hq.mono ch.out.size))
  clear hq
  clear hX
  go_wp2_with fail
  refine (due_at _ _ [c, p] (whileL c p) (whileL c p) _ (dueF_while c p) (fun _ => rfl) (hL.out.left) h3.out).mono ?_
  rintro e w21 ⟨rfl, hq⟩
  have hC := Lib.hid ((hC.out.below hq).mono hq.size)
  have hP := Lib.hid ((hP.out.below hq).mono hq.size)
  have hQ := Lib.hid ((hQ.out.below hq).mono hq.size)
  have hL := Lib.hid ((hL.out.below hq).mono hq.size)
  have hW := Lib.hid ((hW.out.below hq).mono hq.size)
  have h2 := Lib.hid ((h2.out.below hq).mono hq.size)
  have h3 := Lib.hid ((h3.out.below hq).mono hq.size)
  have h4 := Lib.hid ((h4.out.below hq).mono hq.size)
  have ch := Lib.hid (ch.out.trans (hq.mono ch.out.size))
  clear hq
  go_wp2_with fail
  refine (told_at _ _ [c, p] (whileL c p) (whileL c p) _ (fun _ => rfl) hW.out h3.out).mono ?_
  rintro e w22 ⟨rfl, hq⟩
  have hC := Lib.hid ((hC.out.below hq).mono hq.size)
  have hP := Lib.hid ((hP.out.below hq).mono hq.size)
  have hQ := Lib.hid ((hQ.out.below hq).mono hq.size)
  have hL := Lib.hid ((hL.out.below hq).mono hq.size)
  have hW := Lib.hid ((hW.out.below hq).mono hq.size)
  have h2 := Lib.hid ((h2.out.below hq).mono hq.size)
  have h3 := Lib.hid ((h3.out.below hq).mono hq.size)
  have h4 := Lib.hid ((h4.out.below hq).mono hq.size)
  have ch := Lib.hid (ch.out.trans (hq.mono ch.out.size))
  clear hq
  clear hW
  go_wp2_with fail
  refine (awake_any _).mono ?_
  rintro e w23 ⟨rfl, hq⟩
  have hC := Lib.hid ((hC.out.below hq).mono hq.size)
  have hP := Lib.hid ((hP.out.below hq).mono hq.size)
  have hQ := Lib.hid ((hQ.out.below hq).mono hq.size)
  have hL := Lib.hid ((hL.out.below hq).mono hq.size)
  have h2 := Lib.hid ((h2.out.below hq).mono hq.size)
  have h3 := Lib.hid ((h3.out.below hq).mono hq.size)
  have h4 := Lib.hid ((h4.out.below hq).mono hq.size)
  have ch := Lib.hid (ch.out.trans (hq.mono ch.out.size))
  clear hq
  go_wp2
  go_ret
  exact ⟨rfl, ch.out⟩

theorem law_BuildMakes {w : World} (d : ByteArray) (hs : d.size ≤ 140737488355328) (x : Value) (c : List Ins) (hc : InsRow w w.heap.size x c) (v : Value) (p : List Ins) (hp : InsRow w w.heap.size v p) (u : Value) (q : List Ins) (hq : InsRow w w.heap.size u q) :
    Calls Try.prog 7 #[.string d, x, v, u] w fun e w' => e = .returned (.bool true) ∧ Below w.heap.size w w' := by
  obtain ⟨ca, cc, rfl⟩ := hc.len
  obtain ⟨pa, pc, rfl⟩ := hp.len
  obtain ⟨qa, qc, rfl⟩ := hq.len
  cases hd : isTree d with
  | true =>
    cases hvp : validB p with
    | false =>
      cases hvc : validB c with
      | false =>
        exact makes_t_ffx d hs _ _ _ _ _ _ _ _ _ c p q hc hp hq (Lib.hid hd) (Lib.hid hvp) (Lib.hid hvc)
      | true =>
        exact makes_t_ftx d hs _ _ _ _ _ _ _ _ _ c p q hc hp hq (Lib.hid hd) (Lib.hid hvp) (Lib.hid hvc)
    | true =>
      cases hvc : validB c with
      | false =>
        cases hvq : validB q with
        | false => exact makes_t_tff d hs _ _ _ _ _ _ _ _ _ c p q hc hp hq (Lib.hid hd) (Lib.hid hvp) (Lib.hid hvc) (Lib.hid hvq)
        | true => exact makes_t_tft d hs _ _ _ _ _ _ _ _ _ c p q hc hp hq (Lib.hid hd) (Lib.hid hvp) (Lib.hid hvc) (Lib.hid hvq)
      | true =>
        cases hvq : validB q with
        | false => exact makes_t_ttf d hs _ _ _ _ _ _ _ _ _ c p q hc hp hq (Lib.hid hd) (Lib.hid hvp) (Lib.hid hvc) (Lib.hid hvq)
        | true => exact makes_t_ttt d hs _ _ _ _ _ _ _ _ _ c p q hc hp hq (Lib.hid hd) (Lib.hid hvp) (Lib.hid hvc) (Lib.hid hvq)
  | false =>
    cases hvp : validB p with
    | false =>
      cases hvc : validB c with
      | false =>
        exact makes_f_ffx d hs _ _ _ _ _ _ _ _ _ c p q hc hp hq (Lib.hid hd) (Lib.hid hvp) (Lib.hid hvc)
      | true =>
        exact makes_f_ftx d hs _ _ _ _ _ _ _ _ _ c p q hc hp hq (Lib.hid hd) (Lib.hid hvp) (Lib.hid hvc)
    | true =>
      cases hvc : validB c with
      | false =>
        cases hvq : validB q with
        | false => exact makes_f_tff d hs _ _ _ _ _ _ _ _ _ c p q hc hp hq (Lib.hid hd) (Lib.hid hvp) (Lib.hid hvc) (Lib.hid hvq)
        | true => exact makes_f_tft d hs _ _ _ _ _ _ _ _ _ c p q hc hp hq (Lib.hid hd) (Lib.hid hvp) (Lib.hid hvc) (Lib.hid hvq)
      | true =>
        cases hvq : validB q with
        | false => exact makes_f_ttf d hs _ _ _ _ _ _ _ _ _ c p q hc hp hq (Lib.hid hd) (Lib.hid hvp) (Lib.hid hvc) (Lib.hid hvq)
        | true => exact makes_f_ttt d hs _ _ _ _ _ _ _ _ _ c p q hc hp hq (Lib.hid hd) (Lib.hid hvp) (Lib.hid hvc) (Lib.hid hvq)

end Go.Proofs.Ytaiomcjopgnfpaa


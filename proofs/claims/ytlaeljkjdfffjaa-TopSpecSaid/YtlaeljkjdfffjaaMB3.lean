/- The reference's Fits of layer 4. Plain: programs out of valid programs hold valid instructions. narcissustop's trees: size, pair, grow, text, equal. narcissustop: register, number, regs, twin, tail, set, good, whole, few. narcissustop.follow. law04's tail. law04's copied and alike: copies of a list of programs. law04's due and told. ref02's Decimal, TextOf, Text, at small numbers. ref02's Text, at small numbers. law04's awake: the examples of the chapter. The walk of code.Code. know: Clear, before, join. know.join; the code of a program is a tree. Plain: programs that are supplied with a tree. And the walks of spec.Spec, narcissusref05.Spec and narcissusref04.Fits. know.Know. ref02.CodeOf: an instruction as a tree. ref02.Code. ref07: Behind. -/
import Derived.Test.YtlaeljkjdfffjaaMB2
import Derived.Test.YtlaeljkjdfffjaaMB0
import Derived.BigQuiet
import Derived.Test.YtlaeljkjdfffjaaMB1
import Derived.Shelf.Strings.BuilderK
namespace Go.Proofs.Ytlaeljkjdfffjaa
open Go.RowKit

end Go.Proofs.Ytlaeljkjdfffjaa

namespace Go.Proofs.Ytlaeljkjdfffjaa
open Go.RowKit

/-- Instructions that are right at a place of a program of some length. -/
def RA (k n : Nat) (l : List Ins) : Prop := ∀ (i : Nat) x, l[i]? = some x → rightB x ((k + i : Nat) : Int) n = true
theorem RA.nil (k n : Nat) : RA k n [] := fun i x h => by simp at h
theorem RA.append {k n : Nat} {a b : List Ins} (ha : RA k n a) (hb : RA (k + a.length) n b) : RA k n (a ++ b) := by
  intro i x hx
  by_cases h : i < a.length
  · rw [List.getElem?_append_left h] at hx; exact ha i x hx
  · rw [List.getElem?_append_right (by omega)] at hx
    have := hb (i - a.length) x hx
    rwa [show k + a.length + (i - a.length) = k + i by omega] at this
theorem RA.cons {k n : Nat} {x : Ins} {l : List Ins} (hx : rightB x k n = true) (hl : RA (k + 1) n l) : RA k n (x :: l) := by
  intro i y hy
  cases i with
  | zero => simp only [List.getElem?_cons_zero, Option.some.injEq] at hy; subst hy; exact hx
  | succ i =>
    rw [List.getElem?_cons_succ] at hy
    have := hl i y hy
    rwa [show k + 1 + i = k + (i + 1) by omega] at this
theorem RA.of {k n : Nat} {l : List Ins} (h : rightAll l = true) (hn : k + l.length ≤ n) : RA k n l := fun _ _ hx => rightAll_at h hx hn
theorem RA.all {l : List Ins} (h : RA 0 l.length l) : rightAll l = true := rightAll_iff.2 fun i x hx => by have := h i x hx; rwa [Nat.zero_add] at this
theorem ra_move (a b k n : Nat) (ha : a < 32) (hb : b < 32) : rightB (moveI a b) k n = true := by
  unfold rightB moveI regB; simp; omega
theorem ra_cons (a b c k n : Nat) (ha : a < 32) (hb : b < 32) (hc : c < 32) : rightB (consI a b c) k n = true := by
  unfold rightB consI regB; simp; omega
theorem ra_jump (a : Nat) (b : Int) (k n : Nat) (ha : a < 32) (h1 : -(k : Int) ≤ b) (h2 : b ≤ (n : Int) - k) : rightB (jumpI a b) k n = true := by
  unfold rightB jumpI regB; simp; omega
theorem ra_set (a : Nat) (t : ByteArray) (k n : Nat) (ha : a < 32) (ht : isTree t = true) : rightB (setI a t) k n = true := by
  unfold rightB setI regB; simp [ht]; omega
theorem ra_cleanK (m k n : Nat) (hm : m < 32) : RA k n (cleanK m) := by
  intro i x hx
  have h1 := List.mem_of_getElem? hx
  simp only [cleanK, List.mem_map, List.mem_range] at h1
  obtain ⟨j, hj, rfl⟩ := h1
  exact ra_set _ _ _ _ (by omega) (by decide)
theorem mostN_lt32 {l : List Ins} (hv : rightAll l = true) : mostN l < 32 := by have := mostN_lt hv l.length (Nat.le_refl _); rwa [mostN_all] at this
theorem ra_cleanP {l : List Ins} (hv : rightAll l = true) {k n : Nat} (hn : k + (cleanP l).length ≤ n) : RA k n (cleanP l) := by
  rw [cleanP_length] at hn
  unfold cleanP cleanH
  exact (ra_cleanK _ _ _ (mostN_lt32 hv)).append (RA.of hv (by rw [cleanK_length]; omega))
theorem ra_cleans : ∀ (ls : List (List Ins)) (k n : Nat), allV ls = true → k + ((ls.map cleanP).flatten).length ≤ n → RA k n (ls.map cleanP).flatten
  | [], k, n, _, _ => RA.nil _ _
  | l :: ls, k, n, hv, hn => by
    have hv' : validB l = true ∧ allV ls = true := by unfold allV at hv ⊢; simpa using hv
    rw [List.map_cons, List.flatten_cons] at hn ⊢
    rw [List.length_append] at hn
    exact (ra_cleanP (validB_all hv'.1) (by omega)).append (ra_cleans ls _ n hv'.2 (by omega))
theorem thenL_right {ls : List (List Ins)} (hv : allV ls = true) : rightAll (thenL ls) = true := by
  cases ls with
  | nil => rfl
  | cons l ls =>
    have hv' : validB l = true ∧ allV ls = true := by unfold allV at hv ⊢; simpa using hv
    refine RA.all ?_
    unfold thenL
    exact (RA.of (validB_all hv'.1) (by simp)).append (ra_cleans ls _ _ hv'.2 (by simp))
theorem allV_two {p q : List Ins} (h : allV [p, q] = true) : validB p = true ∧ validB q = true := by unfold allV at h; simpa using h
theorem allV_three {c p q : List Ins} (h : allV [c, p, q] = true) : validB c = true ∧ validB p = true ∧ validB q = true := by unfold allV at h; simpa using h
theorem mostR_two (p q : List Ins) : mostR [p, q] = max (regN p) (regN q) := by
  have : 1 ≤ regN q := by unfold regN; omega
  simp [mostR]; omega
theorem mostR_three (c p q : List Ins) : mostR [c, p, q] = max (regN c) (max (regN p) (regN q)) := by
  have : 1 ≤ regN q := by unfold regN; omega
  simp [mostR]; omega
theorem pairL_right {p q : List Ins} (hv : allV [p, q] = true) (hm : mostR [p, q] ≤ 28) : rightAll (pairL p q) = true := by
  obtain ⟨h1, h2⟩ := allV_two hv
  rw [mostR_two] at hm
  have hl : (pairL p q).length = p.length + (cleanP q).length + 4 := by unfold pairL; simp; omega
  refine RA.all ?_
  rw [hl]
  unfold pairL
  obtain ⟨n, hn⟩ : ∃ n, max (regN p) (regN q) = n := ⟨_, rfl⟩
  simp only [hn]
  rw [hn] at hm
  refine RA.append (RA.append (RA.append (RA.cons (ra_move _ _ _ _ (by omega) (by omega)) (RA.of (validB_all h1) (by omega))) (RA.cons (ra_move _ _ _ _ (by omega) (by omega)) (RA.cons (ra_move _ _ _ _ (by omega) (by omega)) (RA.nil _ _)))) (ra_cleanP (validB_all h2) ?_)) (RA.cons (ra_cons _ _ _ _ _ (by omega) (by omega) (by omega)) (RA.nil _ _))
  simp; omega
theorem ifL_right {c p q : List Ins} (hv : allV [c, p, q] = true) (hm : mostR [c, p, q] ≤ 28) : rightAll (ifL c p q) = true := by
  obtain ⟨h0, h1, h2⟩ := allV_three hv
  rw [mostR_three] at hm
  have hl : (ifL c p q).length = c.length + (cleanP p).length + (cleanP q).length + 6 := by unfold ifL; simp; omega
  refine RA.all ?_
  rw [hl]
  unfold ifL
  obtain ⟨n, hn⟩ : ∃ n, max (regN c) (max (regN p) (regN q)) = n := ⟨_, rfl⟩
  simp only [hn]
  rw [hn] at hm
  refine RA.append (RA.append (RA.append (RA.append (RA.cons (ra_move _ _ _ _ (by omega) (by omega)) (RA.of (validB_all h0) (by omega))) (RA.cons (ra_jump _ _ _ _ (by omega) ?_ ?_) (RA.cons (ra_move _ _ _ _ (by omega) (by omega)) (RA.nil _ _)))) (ra_cleanP (validB_all h2) ?_)) (RA.cons (ra_set _ _ _ _ (by omega) (by decide)) (RA.cons (ra_jump _ _ _ _ (by omega) ?_ ?_) (RA.cons (ra_move _ _ _ _ (by omega) (by omega)) (RA.nil _ _))))) (ra_cleanP (validB_all h1) ?_)
  all_goals (simp; omega)
theorem whileL_right {c p : List Ins} (hv : allV [c, p] = true) (hm : mostR [c, p] ≤ 28) : rightAll (whileL c p) = true := by
  obtain ⟨h0, h1⟩ := allV_two hv
  rw [mostR_two] at hm
  have hl0 : (whileH c p).length = (cleanP c).length + (cleanP p).length + 7 := by unfold whileH; simp; omega
  have hl : (whileL c p).length = (cleanP c).length + (cleanP p).length + 8 := by unfold whileL; simp [hl0]
  refine RA.all ?_
  rw [hl]
  unfold whileL
  rw [hl0]
  obtain ⟨n, hn⟩ : ∃ n, max (regN c) (regN p) = n := ⟨_, rfl⟩
  rw [hn] at hm ⊢
  refine RA.append ?_ (RA.cons (ra_jump _ _ _ _ (by omega) ?_ ?_) (RA.nil _ _))
  · unfold whileH
    simp only [hn]
    refine RA.append (RA.append (RA.append (RA.cons (ra_move _ _ _ _ (by omega) (by omega)) (ra_cleanP (validB_all h0) (by omega))) (RA.cons (ra_jump _ _ _ _ (by omega) ?_ ?_) (RA.cons (ra_move _ _ _ _ (by omega) (by omega)) (RA.cons (ra_set _ _ _ _ (by omega) (by decide)) (RA.cons (ra_jump _ _ _ _ (by omega) ?_ ?_) (RA.cons (ra_move _ _ _ _ (by omega) (by omega)) (RA.nil _ _))))))) (ra_cleanP (validB_all h1) ?_)) (RA.cons (ra_set _ _ _ _ (by omega) (by decide)) (RA.nil _ _))
    all_goals (simp; omega)
  · rw [hl0]; omega
  · rw [hl0]; omega

/-- The due error, as it is said with the limits alone. -/
def dueF (ls : List (List Ins)) (m : List Ins) : Int := if allV ls = false then 1 else if 28 < mostR ls then 8 else if fitsP m = true then 0 else 3
theorem dueF_eq {ls : List (List Ins)} {m : List Ins} (h : allV ls = true → mostR ls ≤ 28 → rightAll m = true) : dueF ls m = dueN ls m := by
  unfold dueF dueN
  by_cases h1 : allV ls = false
  · rw [if_pos h1, if_pos h1]
  · rw [if_neg h1, if_neg h1]
    by_cases h2 : 28 < mostR ls
    · rw [if_pos h2, if_pos h2]
    · rw [if_neg h2, if_neg h2, validB_fits (h (by simpa using h1) (by omega))]
theorem dueF_then (ls : List (List Ins)) : dueF ls (thenL ls) = dueN ls (thenL ls) := dueF_eq fun h _ => thenL_right h
theorem dueF_pair (p q : List Ins) : dueF [p, q] (pairL p q) = dueN [p, q] (pairL p q) := dueF_eq pairL_right
theorem dueF_if (c p q : List Ins) : dueF [c, p, q] (ifL c p q) = dueN [c, p, q] (ifL c p q) := dueF_eq ifL_right
theorem dueF_while (c p : List Ins) : dueF [c, p] (whileL c p) = dueN [c, p] (whileL c p) := dueF_eq whileL_right

end Go.Proofs.Ytlaeljkjdfffjaa

namespace Go.Proofs.Ytlaeljkjdfffjaa
open Go.RowKit

theorem el_cell : ElemT Try.prog 98 25 (.pointer none) 1 8 := ⟨Try.underlying98, by kernel_rfl, rfl, by decide⟩
theorem tsize_any (t : Tr) (v : Value) (w : World) (h : NodeP 102 w t v) :
    Calls Try.prog 60 #[v] w fun e w' => e = .returned (.int .i64 t.size) ∧ w = w' := by
  cases t with
  | nil =>
    have hv : v = .pointer none := h
    subst hv
    go_enter Try.func60, Try.ntmps60
    go_wp2
    go_ret
    exact ⟨rfl, rfl⟩
  | pair a b =>
    obtain ⟨g, x, y, rfl, hg, c0, c1, c2, ha, hb⟩ := h.cells
    go_enter Try.func60, Try.ntmps60
    go_wp2
    go_ret
    exact ⟨rfl, rfl⟩

theorem tpair_ok (a b : Tr) (x y : Value) (w : World) (ha : NodeP 102 w a x) (hb : NodeP 102 w b y) (h1 : a.size ≤ 4000001) (h2 : b.size ≤ 4000001) :
    Calls Try.prog 20 #[x, y] w fun e w' => ∃ p, e = .returned (.pointer (some p)) ∧ NodeP 102 w' (.pair a b) (.pointer (some p)) ∧ Below w.heap.size w w' := by
  have s1 := tsize_any a x w ha
  have s2 := tsize_any b y w hb
  have hn := NodeP.new ha hb
  obtain ⟨x, rfl⟩ := ha.ptr
  obtain ⟨y, rfl⟩ := hb.ptr
  obtain ⟨sz, hsz⟩ : ∃ q, (Tr.pair a b).size = q := ⟨_, rfl⟩
  rw [hsz] at hn
  have ht : ((1 + a.size + b.size : Nat) : Int) = sz := by rw [← hsz]; rfl
  have e1 : (1 : Int) + a.size + b.size = sz := by omega
  have a1 : (a.size : Int) ≤ 4000001 := by omega
  have a2 : (b.size : Int) ≤ 4000001 := by omega
  clear hsz ht h1 h2
  go_enter Try.func20, Try.ntmps20
  go_wp2_with fail
  refine s1.mono ?_
  rintro e w1 ⟨rfl, rfl⟩
  go_wp2_with fail
  refine s2.mono ?_
  rintro e w1 ⟨rfl, rfl⟩
  clear s1 s2
  go_wp2
  go_ret
  exact ⟨_, rfl, hn, (Below.refl _ _).alloc (Nat.le_refl _) _⟩

set_option maxHeartbeats 2000000 in
theorem ttext_any (t : Tr) (v : Value) (w : World) (h : NodeP 102 w t v) (hs : t.size ≤ 4000001) :
    Calls Try.prog 61 #[v] w fun e w' => e = .returned (.string (TS t)) ∧ Below w.heap.size w w' := by
  have hsI : (t.size : Int) ≤ 4000001 := by omega
  have hs1 : (1 : Int) ≤ t.size := by have := t.size_pos; omega
  obtain ⟨i0, hi0, hz0, hz1, hz2⟩ := info_parts el_u8.hi
  obtain ⟨pv, rfl⟩ := h.ptr
  obtain ⟨S, hS⟩ : ∃ S, TS t = S := ⟨_, rfl⟩
  rw [hS]
  have HS := Lib.hid hS; clear hS
  go_enter Try.func61, Try.ntmps61
  go_wp2
  have hN := h
  have hb := Below.refl w.heap.size w
  have hsz1 := hb.size
  have hown : w.ownsRow w.heap.size 5 1 (.slice none 0 0) 0 [] := World.ownsRow_nil _ _ _ _
  clear h
  have hst : (w.alloc (.cells #[.pointer pv] 25)).ownsRow w.heap.size 25 1 (.slice (some ⟨w.heap.size, 0, none⟩) 1 1) 1 [.pointer pv] := World.ownsRow_lit w _ 1 hsz1 (by decide) rfl
  have hown2 := hown.alloc (.cells #[.pointer pv] 25)
  have hN2 : NodeP 102 (w.alloc (.cells #[.pointer pv] 25)) t (.pointer pv) := hN.kept ((Kept.refl _ _).alloc _)
  have hb2 : Below w.heap.size w (w.alloc (.cells #[.pointer pv] 25)) := hb.alloc hsz1 _
  clear hown hb hN
  generalize w.alloc (.cells #[.pointer pv] 25) = w2 at *
  go_loopg [3, 4] t.size (fun g ov sv wr => ∃ (us : List Tr) (vals : List Value) (done : List UInt8) (n m : Nat), Aside (g = szs us) ∧ n ≤ t.size ∧ m ≤ t.size ∧ Aside (t.enc = done ++ (us.map Tr.enc).flatten) ∧ Nodes 102 wr us vals ∧ Aside (m = us.length) ∧
      wr.ownsRow w.heap.size 5 1 ov n (Lib.byteCells done) ∧ wr.ownsRow w.heap.size 25 1 sv m vals.reverse ∧ Below w.heap.size w wr)
  case atStart => exact ⟨[t], [.pointer pv], [], 0, 1, (by show _ = _; simp [szs]), by omega, by omega, (by show _ = _; simp), ⟨hN2, trivial⟩, rfl, hown2, hst, hb2⟩
  case round =>
    clear hst hown2 hN2 hb2
    obtain ⟨us, vals, done, n, m, hg, hn, hm, he, hNs, hml, hown, hst, hb⟩ := hrel
    have hsz := hb.size
    have hnd : n = done.length := by have := hown.1; simpa [Lib.byteCells] using this.symm
    have hlen : done.length + szs us = t.size := by
      have h3 := congrArg List.length he.out
      rw [List.length_append, szs_flat, Tr.enc_length] at h3; omega
    cases us with
    | nil =>
      have hm0 : m = 0 := hml.out
      subst hm0
      obtain ⟨sa, sc, rfl⟩ := own_len hst
      have hed : t.enc = done := by have := he.out; simpa using this
      have hcv := own_bytes (P := Try.prog) done hown 125 Try.underlying125 Try.underlying5 9 Try.underlying9
      have HE := Lib.hid hed
      clear hed hg he hml hlen hnd hown
      go_wp2
      go_ret
      exact ⟨by rw [← HS.out]; unfold TS; rw [HE.out]; rfl, hb⟩
    | cons u us =>
      obtain ⟨v, vals, rfl, hv, hvs⟩ := hNs.uncons
      obtain ⟨m, rfl⟩ : ∃ q, m = q + 1 := ⟨us.length, hml.out⟩
      have hul := u.size_pos
      have hszs : szs (u :: us) = u.size + szs us := by simp [szs]
      have hus : us.length ≤ szs us := by
        have : ∀ l : List Tr, l.length ≤ szs l := fun l => by
          induction l with
          | nil => simp [szs]
          | cons a l ih => have := a.size_pos; simp [szs] at *; omega
        exact this us
      have hmu : m = us.length := by have := hml.out; simpa using this
      obtain ⟨sg, cap, rfl, hg1, hg2, hnc, hcm, hcell, hfz⟩ := own_cells hst (by omega)
      have hvl := hvs.length
      have c1 : wr.cell? ⟨sg, m, none⟩ = some v := by
        rw [hcell _ (by omega), List.reverse_cons, List.getElem?_append_right (by simp; omega)]; simp [hvl, hmu]
      have hpop : wr.ownsRow w.heap.size 25 1 (.slice (some ⟨sg, 0, none⟩) m cap) m vals.reverse := ownsRow_pop (last := [v]) (by simp [hvl, hmu]) (by rw [List.reverse_cons] at hst; exact hst)
      have hmI : (m : Int) ≤ (cap : Int) := by omega
      have hm2 : (m : Int) ≤ 4000001 := by omega
      have hn2 : (n : Int) ≤ 4000001 := by omega
      have HND := Lib.hid hnd; have HL := Lib.hid hlen; have HZ := Lib.hid hszs; have HU := Lib.hid hus; have HMU := Lib.hid hmu
      clear hnd hlen hszs hus hmu hcell hfz hst hvl hNs hml
      cases u with
      | nil =>
        have hv0 : v = .pointer none := hv
        subst hv0
        have hb1 : n + 1 ≤ t.size := by have := HL.out; have := HZ.out; have := HND.out; omega
        go_wp2_with (at_builtin; refine app_new el_u8 rfl _ _ rfl rfl hown [.int .u8 48] 1 rfl rfl ?c1 ?c2 ?c3 hsz hb (Nat.le_refl _) ?_)
        case c1 => intro u hu; simp at hu; rcases hu with rfl; rfl
        case c2 => omega
        case c3 => unfold maxLen; omega
        intro ov' w3 hown' hb' hgr
        have hN' := hvs.kept (Kept.grew hown hgr (by decide))
        have hst' := own_other hown hpop hgr (by decide)
        clear hown hpop hb hvs hv c1
        go_wp2
        go_roundg (szs us)
        case measure => rw [hg.out, HZ.out]; omega
        case rel =>
          refine ⟨us, vals, done ++ [48], n + 1, m, rfl, hb1, by omega, ?_, hN', HMU.out, ?_, hst', hb'⟩
          · show _ = _; rw [he.out]; simp [Tr.enc]
          · simpa [Lib.byteCells] using hown'
      | pair a b =>
        obtain ⟨ng, x, y, rfl, hng, d0, d1, d2, ha, hb9⟩ := hv.cells
        obtain ⟨ng', x', y', hvv, hblk, _, _⟩ := hv
        obtain rfl : ng = ng' := by simpa using hvv
        have hx' : x' = .pointer x := by have h3 := (block_cells hblk).1 0; rw [d0] at h3; simpa using h3.symm
        have hy' : y' = .pointer y := by have h3 := (block_cells hblk).1 1; rw [d1] at h3; simpa using h3.symm
        subst hx'; subst hy'
        have hab : (Tr.pair a b).size = 1 + a.size + b.size := rfl
        have ha1 := a.size_pos
        have hb1' := b.size_pos
        have hb1 : n + 1 ≤ t.size := by have := HL.out; have := HZ.out; have := HND.out; omega
        have hm3 : m + 2 ≤ t.size := by have := HL.out; have := HZ.out; have := HU.out; have := HMU.out; omega
        go_wp2_with (at_builtin; refine app_new el_u8 rfl _ _ rfl rfl hown [.int .u8 49] 1 rfl rfl ?c1 ?c2 ?c3 hsz hb (Nat.le_refl _) ?_)
        case c1 => intro u hu; simp at hu; rcases hu with rfl; rfl
        case c2 => omega
        case c3 => unfold maxLen; omega
        intro ov' w3 hown' hb' hgr
        have hkk : Kept 102 wr w3 := Kept.grew hown hgr (by decide)
        have hblk3 := hkk _ _ hblk
        have hvs3 := hvs.kept hkk
        have ha3 := ha.kept hkk
        have hb3 := hb9.kept hkk
        have hst' := own_other hown hpop hgr (by decide)
        have hsz3 := hb'.size
        have hab' := hab
        have HAB := Lib.hid hab
        clear hab hab' hown hpop hb hvs c1 d0 d1 d2 ha hb9 hblk hkk hgr
        have e0 := (block_cells hblk3).1 0
        have e1 := (block_cells hblk3).1 1
        have HB3 := Lib.hid hblk3; clear hblk3
        go_wp2
        go_region_held3 (fun w' => w'.cell? ⟨ng, 0, none⟩ = some (.pointer x) ∧ w'.cell? ⟨ng, 1, none⟩ = some (.pointer y))
          (first | exact keepS HB3.out (Kept.drew (Kept.refl _ _)) | exact keepS HB3.out (Kept.drew ((Kept.refl _ _).alloc _)) | exact keepS HB3.out (Kept.of_drew (Kept.grew hst'.drew hgr4 (by decide))))
          ((refine step_new el_cell (by rfl) _ _ (by rfl) (by rfl) (hst'.drew) [.pointer y, .pointer x] 2 (by rfl) (by rfl) (by decide) (by intro u hu; simp at hu; rcases hu with rfl | rfl <;> rfl) (by omega) (by unfold maxLen; omega) hsz3 hb'.drew (Nat.le_refl _) ?_; intro g4 cap4 w4 hst4 hb4 hgr4))
        all_goals
          have hkk4 : Kept 102 w3 w4 := Kept.of_drew (Kept.grew hst'.drew hgr4 (by decide))
          have hN4 := hvs3.kept hkk4
          have ha4 := ha3.kept hkk4
          have hb44 := hb3.kept hkk4
          have hown4 := own_other hst'.drew hown'.drew hgr4 (by decide)
          clear hvs3 ha3 hb3 hown' hst' e0 e1
          go_wp2
          go_roundg (szs (a :: b :: us))
          case measure => rw [hg.out, HZ.out, HAB.out]; simp [szs]; omega
          case rel =>
            refine ⟨a :: b :: us, .pointer x :: .pointer y :: vals, done ++ [49], n + 1, m + 2, rfl, hb1, hm3, ?_, ⟨ha4, hb44, hN4⟩, ?_, ?_, ?_, hb4⟩
            · show _ = _; rw [he.out]; simp [Tr.enc]
            · show _ = _; rw [HMU.out]; simp
            · simpa [Lib.byteCells] using hown4
            · simpa using hst4


/-- What grow takes. -/
def growB (s : ByteArray) (most : Nat) : Bool := isTree s && decide (s.size ≤ most)
def GrowOut (w : World) (s : ByteArray) (most : Nat) (e : Ending) (w' : World) : Prop := ∃ p, e = .returned (.tuple #[.pointer p, .bool (growB s most)]) ∧ (growB s most = true → NodeP 102 w' (toTr s) (.pointer p)) ∧ (growB s most = false → p = none) ∧ Below w.heap.size w w'
theorem GrowOut.bad {w w' : World} {s : ByteArray} {most : Nat} {e : Ending} (h : growB s most = false) (he : e = .returned (.tuple #[.pointer none, .bool false])) (hb : Below w.heap.size w w') : GrowOut w s most e w' :=
  ⟨none, by rw [he, h], fun h1 => (by rw [h] at h1; cases h1), fun _ => rfl, hb⟩

set_option maxRecDepth 20000 in
set_option maxHeartbeats 4000000 in
theorem tgrow_any (s : ByteArray) (hs : s.size ≤ 140737488355328) (most : Nat) (hmost : most ≤ 2000000) (w : World) :
    Calls Try.prog 16 #[.string s, .int .i64 most] w (GrowOut w s most) := by
  have hmI : (most : Int) ≤ 2000000 := by omega
  by_cases hbig : most < s.size
  · have hbad : growB s most = false := by unfold growB; rw [decide_eq_false (by omega), Bool.and_false]
    have hd : (most : Int) < s.size := by omega
    have HB := Lib.hid hbad
    clear hbig hbad
    go_enter Try.func16, Try.ntmps16
    go_wp2
    go_ret2
    exact GrowOut.bad HB.out rfl (Below.refl _ _)
  · have hs2 : (s.size : Int) ≤ 2000000 := by omega
    have hs3 : (s.size : Int) ≤ most := by omega
    have hs4 : ¬ (most : Int) < s.size := by omega
    have hs5 : ¬ most < s.size := by omega
    have HGB := Lib.hid (show growB s most = isTree s by unfold growB; rw [decide_eq_true (by omega), Bool.and_true])
    have hf : pf (s.data.toList.drop s.size) = some [] := by rw [List.drop_eq_nil_of_le (by simp)]; rfl
    have HF := Lib.hid hf; clear hf hbig hmost
    go_enter Try.func16, Try.ntmps16
    go_wp2
    go_loopg [6, 7] s.size (fun g v i wr => ∃ (j n : Nat) (ts : List Tr) (vals : List Value), j ≤ s.size ∧ g = j ∧ i = .int .i64 ((j : Int) - 1) ∧ Aside (pf (s.data.toList.drop j) = some ts) ∧ Aside (n = ts.length) ∧ Nodes 102 wr ts vals ∧
      wr.ownsRow w.heap.size 25 1 v n vals.reverse ∧ Below w.heap.size w wr)
    case atStart => exact ⟨s.size, 0, [], [], Nat.le_refl _, rfl, rfl, HF.out, rfl, trivial, World.ownsRow_nil _ _ _ _, Below.refl _ _⟩
    case round =>
      obtain ⟨j, n, ts, vals, hj, hg, hi, hp, hnl, hNs, hown, hb⟩ := hrel
      have HG := Lib.hid hg; clear hg
      have hsz := hb.size
      have hlen := pf_length _ _ hp.out
      have hnn : n ≤ s.size - j := by rw [hnl.out]; simpa using hlen
      clear hlen
      obtain ⟨sa, sc, rfl⟩ := own_len hown
      cases j with
      | succ q =>
        rw [show (((q + 1 : Nat) : Int) - 1) = (q : Int) from by omega] at hi
        subst hi
        have hq : q < s.size := by omega
        have hnI : (n : Int) ≤ 2000000 := by omega
        by_cases h8 : (s[q].toNat : Int) = 48
        · have HT : Aside (pf (s.data.toList.drop q) = some (.nil :: ts)) := pf_step_48 hq h8 hp.out
          go_wp2_with (at_builtin; refine app_new el_cell rfl _ _ rfl rfl hown [.pointer none] 1 rfl rfl ?c1 ?c2 ?c3 hsz hb (Nat.le_refl _) ?_)
          case c1 => intro u hu; simp at hu; rcases hu with rfl; rfl
          case c2 => omega
          case c3 => unfold maxLen; omega
          intro v' w' hown' hb' hgr
          have hN' := hNs.kept (Kept.grew hown hgr (by decide))
          clear hown hb hNs
          go_wp2
          go_roundg q
          case measure => rw [HG.out]; omega
          case rel => exact ⟨q, n + 1, .nil :: ts, .pointer none :: vals, by omega, rfl, rfl, HT, (by show _ = _; rw [hnl.out]; rfl), ⟨rfl, hN'⟩, by simpa using hown', hb'⟩
        · have b8 : ((s[q].toNat : Int) == 48) = false := beq_eq_false_iff_ne.2 h8
          by_cases h9 : (s[q].toNat : Int) = 49
          · by_cases h2 : 2 ≤ n
            · obtain ⟨n, rfl⟩ : ∃ m, n = m + 2 := ⟨n - 2, by omega⟩
              have hts : ∃ a b r, ts = a :: b :: r := by
                have h3 := hnl.out
                match ts, h3 with
                | a :: b :: r, _ => exact ⟨a, b, r, rfl⟩
                | [], h3 => simp at h3
                | [a], h3 => simp at h3
              obtain ⟨a, b, r, rfl⟩ := hts
              obtain ⟨va, vals, rfl, ha, hNq⟩ := hNs.uncons
              obtain ⟨vb, vals, rfl, hbb, hNr⟩ := hNq.uncons
              clear hNs hNq
              have hnr : n = r.length := by have := hnl.out; simpa using this
              have hvl := hNr.length
              have HT : Aside (pf (s.data.toList.drop q) = some (.pair a b :: r)) := pf_step_49 hq h9 hp.out
              obtain ⟨sg, cap, hsv, hg1, hg2, hnc, hcm, hcell, hfz⟩ := own_cells hown (by omega)
              simp only [Value.slice.injEq] at hsv
              obtain ⟨rfl, -, rfl⟩ := hsv
              have c1 : wr.cell? ⟨sg, n + 1, none⟩ = some va := by
                rw [hcell _ (by omega), List.reverse_cons, List.getElem?_append_right (by simp; omega)]; simp [hvl, hnr]
              have c2 : wr.cell? ⟨sg, n, none⟩ = some vb := by
                rw [hcell _ (by omega), List.reverse_cons, List.reverse_cons, List.append_assoc, List.getElem?_append_right (by simp; omega)]; simp [hvl, hnr]
              have hpop : wr.ownsRow w.heap.size 25 1 (.slice (some ⟨sg, 0, none⟩) n sc) n vals.reverse :=
                ownsRow_pop (last := [vb]) (by simp [hvl, hnr]) (ownsRow_pop (last := [va]) (by simp [hvl, hnr]) (by rw [List.reverse_cons, List.reverse_cons] at hown; exact hown))
              have hzab : (Tr.pair a b).size ≤ 2000000 := by
                have h3 := congrArg List.length (pf_flat _ _ HT.out)
                simp [Tr.enc_length] at h3; omega
              obtain ⟨va, rfl⟩ := ha.ptr
              obtain ⟨vb, rfl⟩ := hbb.ptr
              have e1 : ((n : Int) + 2 - 1).toNat = n + 1 := by omega
              have e3 : ((n : Int) + 1).toNat = n + 1 := by omega
              have o1 : (0 : Int) ≤ (n : Int) + 1 := by omega
              have o2 : (n : Int) + 1 < (n : Int) + 2 := by omega
              have o3 : (n : Int) < (n : Int) + 2 := by omega
              have o8 : (n : Int) ≤ (sc : Int) := by omega
              have d2 : decide ((1 : Int) < (n : Int) + 2) = true := decide_eq_true (by omega)
              have d3 : (1 : Int) < (n : Int) + 2 := by omega
              clear h2
              have hc0 := tpair_ok a b _ _ wr.drew (ha.kept (Kept.drew (Kept.refl _ _))) (hbb.kept (Kept.drew (Kept.refl _ _))) (by simp only [Tr.size] at hzab; omega) (by simp only [Tr.size] at hzab; omega)
              have HC := Lib.hid hc0
              have HV := Lib.hid hvl; have HR := Lib.hid hnr
              clear hc0 hzab hcell hfz hown hvl hnr ha hbb
              go_wp2
              have W1 : IntKind.i64.wrap (n : Int) = n := IntWalk.i64_in _ (by omega)
              have W2 : IntKind.i64.wrap ((n : Int) + 2 - 1) = (n : Int) + 1 := by rw [IntWalk.i64_in _ (by omega)]; omega
              go_region_law ((first
                | (refine step_new el_cell (by rfl) _ _ (by rfl) (by rfl) (own_below hpop (by first | exact k6 | exact k6.drew)) [.pointer (some p5)] 1 (by rfl) (by rfl) (by decide) (by intro u hu; simp at hu; subst hu; rfl) (by omega) (by unfold maxLen; omega) (by have h1 := k6.size; simp; omega) (hb.trans ((by first | exact k6 | exact k6.drew : Below wr.heap.size wr _).mono hsz)) (Nat.le_refl _) ?_; intro g4 cp4 w4 hown4 hb4 hg4)
                | (go_simp; refine HC.out.mono ?_; rintro e w5 ⟨p5, rfl, hp5, k5⟩; have k6 := below_of_drew k5)))
              all_goals
                have hN5 := hNr.kept (Kept.below k6)
                have hkk := Kept.grew (T := 102) (own_below hpop (by first | exact k6 | exact k6.drew)) hg4 (by decide)
                have hN' := hN5.kept (by first | exact hkk | exact Kept.of_drew hkk)
                have hp' := hp5.kept (by first | exact hkk | exact Kept.of_drew hkk)
                clear hpop hb hN5 hp5 hkk hNr c1 c2 k5 k6 HC
                go_wp2
                go_roundg q
                case measure => rw [HG.out]; omega
                case rel => exact ⟨q, n + 1, .pair a b :: r, .pointer (some p5) :: vals, by omega, rfl, rfl, HT, (by show _ = _; rw [HR.out]; rfl), ⟨hp', hN'⟩, by simpa using hown4, hb4⟩
            · have hbad := Lib.hid (pf_step_few hq h9 hp.out (by rw [← hnl.out]; omega))
              have h2I : ¬ (1 : Int) < n := by omega
              clear h2
              go_wp2
              go_ret2
              exact GrowOut.bad (HGB.out.trans hbad.out) rfl hb
          · have hbad := Lib.hid (pf_step_else hq h8 h9)
            have b9 : ((s[q].toNat : Int) == 49) = false := beq_eq_false_iff_ne.2 h9
            go_wp2
            go_ret2
            exact GrowOut.bad (HGB.out.trans hbad.out) rfl hb
      | zero =>
        rw [show (((0 : Nat) : Int) - 1) = -1 from rfl] at hi
        subst hi
        have hp' := hp.out
        rw [List.drop_zero] at hp'
        have ht := pf_len_tree hp' (by omega)
        by_cases h1 : n = 1
        · subst h1
          have hts : ∃ t, ts = [t] := by
            have h3 := hnl.out
            match ts, h3 with
            | [t], _ => exact ⟨t, rfl⟩
            | [], h3 => simp at h3
            | a :: b :: r, h3 => simp at h3
          obtain ⟨t, rfl⟩ := hts
          obtain ⟨v, us, rfl, hv, hus⟩ := hNs.uncons
          obtain rfl := hus.nil_iff
          obtain ⟨sg, cap, hsv, hg1, hg2, hnc, hcm, hcell, hfz⟩ := own_cells hown (by omega)
          simp only [Value.slice.injEq] at hsv
          obtain ⟨rfl, -, rfl⟩ := hsv
          obtain ⟨pv, rfl⟩ := hv.ptr
          have c1 : wr.cell? ⟨sg, 0, none⟩ = some (.pointer pv) := by rw [hcell _ (by omega)]; rfl
          have hst : s = TS t := ba_ext (by rw [TS_list, pf_flat _ _ hp']; simp)
          have HS := Lib.hid hst
          have HT := Lib.hid ht
          clear hcell hfz hown ht hp' hp hst
          go_wp2
          go_ret2
          refine ⟨pv, by rw [HGB.out, HT.out]; rfl, fun _ => ?_, fun h => (by rw [HGB.out, HT.out] at h; cases h), hb⟩
          have hz : t.size ≤ 2000000 := by have h9 := TS_size t; rw [← HS.out] at h9; omega
          rw [HS.out, toTr_TS t hz]; exact hv
        · have hbad : isTree s = false := by rw [ht, ← hnl.out]; exact decide_eq_false h1
          have HB := Lib.hid hbad
          have h1b : ((n : Int) != 1) = true := by rw [bne_iff_ne]; omega
          clear hbad ht hp' hp h1
          go_wp2
          go_ret2
          exact GrowOut.bad (HGB.out.trans HB.out) rfl hb

theorem tequal_any (t t' : Tr) (va vb : Value) (w : World) (h1 : NodeP 102 w t va) (h2 : NodeP 102 w t' vb) (hs : t.size ≤ 4000001) (hs' : t'.size ≤ 4000001) :
    Calls Try.prog 22 #[va, vb] w fun e w' => e = .returned (.bool (decide (t = t'))) ∧ Below w.heap.size w w' := by
  have ks1 := Lib.hid (fun w (h : NodeP 102 w t va) => tsize_any t va w h)
  have ks2 := Lib.hid (fun w (h : NodeP 102 w t' vb) => tsize_any t' vb w h)
  have kt1 := Lib.hid (fun w (h : NodeP 102 w t va) => ttext_any t va w h hs)
  have kt2 := Lib.hid (fun w (h : NodeP 102 w t' vb) => ttext_any t' vb w h hs')
  obtain ⟨pa, rfl⟩ := h1.ptr
  obtain ⟨pb, rfl⟩ := h2.ptr
  obtain ⟨za, hza⟩ : ∃ z, t.size = z := ⟨_, rfl⟩
  obtain ⟨zb, hzb⟩ : ∃ z, t'.size = z := ⟨_, rfl⟩
  have HZA := Lib.hid hza
  have HZB := Lib.hid hzb
  rw [hza] at ks1
  rw [hzb] at ks2
  have hA := Lib.hid h1
  have hB := Lib.hid h2
  have hzaI : (za : Int) ≤ 4000001 := by omega
  have hzbI : (zb : Int) ≤ 4000001 := by omega
  clear h1 h2 hza hzb hs hs'
  by_cases hz : za = zb
  · have hzz : ((za : Int) == (zb : Int)) = true := by rw [beq_iff_eq]; omega
    obtain ⟨sa, hsa⟩ : ∃ s, TS t = s := ⟨_, rfl⟩
    obtain ⟨sb, hsb⟩ : ∃ s, TS t' = s := ⟨_, rfl⟩
    rw [hsa] at kt1
    rw [hsb] at kt2
    have HT := Lib.hid (show decide (t = t') = (sa.toList == sb.toList) by
      rw [← hsa, ← hsb]
      by_cases h : t = t'
      · subst h; simp
      · rw [decide_eq_false h, eq_comm, beq_eq_false_iff_ne]
        intro e
        exact h (TS_inj (ba_ext (by simpa [ByteArray.toList_eq] using e))))
    obtain ⟨D, hD⟩ : ∃ D, decide (t = t') = D := ⟨_, rfl⟩
    rw [hD] at HT ⊢
    clear hz hsa hsb hD
    go_enter Try.func22, Try.ntmps22
    go_wp2_with fail
    refine (ks1.out _ hA.out).mono ?_
    rintro e wq ⟨rfl, rfl⟩
    go_wp2_with fail
    refine (ks2.out _ hB.out).mono ?_
    rintro e wq ⟨rfl, rfl⟩
    go_wp2_with fail
    refine (kt1.out _ hA.out).mono ?_
    rintro e w1 ⟨rfl, hb1⟩
    have hB1 := Lib.hid (hB.out.kept (Kept.below hb1))
    have HB1 := Lib.hid hb1
    clear hb1
    go_wp2_with fail
    refine (kt2.out _ hB1.out).mono ?_
    rintro e w2 ⟨rfl, hb2⟩
    have HB2 := Lib.hid (HB1.out.trans (hb2.mono HB1.out.size))
    clear hb2
    go_wp2
    go_ret
    exact ⟨by rw [HT.out]; rfl, HB2.out⟩
  · have hzz : ((za : Int) == (zb : Int)) = false := by rw [beq_eq_false_iff_ne]; omega
    have HD := Lib.hid (show decide (t = t') = false from decide_eq_false (fun e => hz (by rw [← HZA.out, ← HZB.out, e])))
    clear hz
    go_enter Try.func22, Try.ntmps22
    go_wp2_with fail
    refine (ks1.out _ hA.out).mono ?_
    rintro e wq ⟨rfl, rfl⟩
    go_wp2_with fail
    refine (ks2.out _ hB.out).mono ?_
    rintro e wq ⟨rfl, rfl⟩
    go_wp2
    go_ret
    exact ⟨by rw [HD.out]; rfl, Below.refl _ _⟩
end Go.Proofs.Ytlaeljkjdfffjaa

namespace Go.Proofs.Ytlaeljkjdfffjaa
open Go.RowKit

theorem treg_any (n : Int) (b : Bool) (h : regB n = b) (w : World) : Calls Try.prog 84 #[.int .i64 n] w fun e w' => e = .returned (.bool b) ∧ w = w' := by
  unfold regB at h
  by_cases h0 : 0 ≤ n
  · by_cases h1 : n < 32
    · have hb : b = true := by rw [← h]; simp; omega
      subst hb
      clear h
      go_enter Try.func84, Try.ntmps84
      go_wp2
      go_ret
      exact ⟨rfl, rfl⟩
    · have hb : b = false := by rw [← h]; simp; omega
      subst hb
      clear h
      go_enter Try.func84, Try.ntmps84
      go_wp2
      go_ret
      exact ⟨rfl, rfl⟩
  · have hb : b = false := by rw [← h]; simp; omega
    subst hb
    clear h
    go_enter Try.func84, Try.ntmps84
    go_wp2
    go_ret
    exact ⟨rfl, rfl⟩
theorem tnumber_any (n : Nat) (hn : n ≤ 100000) (w : World) : Calls Try.prog 49 #[.int .i64 n] w fun e w' => ∃ p, e = .returned (.pointer p) ∧ NodeP 102 w' (.num n) (.pointer p) ∧ Below w.heap.size w w' := by
  have hnI : (n : Int) ≤ 100000 := by omega
  go_enter Try.func49, Try.ntmps49
  go_wp2
  go_loopg [3, 4] n (fun gg c i wr => ∃ (k : Nat) (p : Option Addr), k ≤ n ∧ gg = n - k ∧ c = .pointer p ∧ i = .int .i64 k ∧ Hid (NodeP 102 wr (.num k) (.pointer p)) ∧ Below w.heap.size w wr)
  case atStart => exact ⟨0, none, by omega, rfl, rfl, rfl, Lib.hid rfl, Below.refl _ _⟩
  case round =>
    obtain ⟨k, p, hk, hg, rfl, rfl, hp, hb⟩ := hrel
    have HG := Lib.hid hg; clear hg
    by_cases hlt : k < n
    · have hi : (k : Int) < n := by omega
      go_wp2_with fail
      refine (tpair_ok .nil (.num k) _ _ _ rfl hp.out (by decide) (by rw [size_num]; omega)).mono ?_
      rintro e w1 ⟨q, rfl, hq, hb1⟩
      have hP := Lib.hid (show NodeP 102 w1 (.num (k + 1)) (.pointer (some q)) from hq)
      have HB := Lib.hid (hb.trans (hb1.mono hb.size))
      clear hq hb1 hb hp
      go_wp2
      go_roundg (n - (k + 1))
      case measure => rw [HG.out]; omega
      case rel => exact ⟨k + 1, some q, by omega, rfl, rfl, by go_num, hP, HB.out⟩
    · have hkn : k = n := by omega
      subst hkn
      go_wp2
      go_ret
      exact ⟨p, rfl, hp.out, hb⟩
theorem tnum_at (i : Int) (n : Nat) (hi : i = n) (hn : n ≤ 100000) (w : World) : Calls Try.prog 49 #[.int .i64 i] w fun e w' => ∃ p, e = .returned (.pointer p) ∧ NodeP 102 w' (.num n) (.pointer p) ∧ Below w.heap.size w w' := by
  subst hi; exact tnumber_any n hn w
theorem ttwin_any (v : Value) (l : List Ins) (hn : l.length ≤ 1000000) (w : World) (hl : InsRow w w.heap.size v l) : Calls Try.prog 50 #[v] w fun e w' => ∃ a c, e = .returned (.slice a l.length c) ∧ OwnI w' w.heap.size (.slice a l.length c) l ∧ Below w.heap.size w w' := by
  obtain ⟨la, lc, rfl⟩ := hl.len
  have hL := Lib.hid hl
  have HN := Lib.hid hn
  clear hl hn
  have ch := Lib.hid (Below.refl w.heap.size w)
  go_enter Try.func50, Try.ntmps50
  have q_hL := hL
  have rl := Lib.hid (Below.refl w.heap.size w)
  have hs0 := hL.out
  go_wp2_with (at_builtin; refine lit_row rfl _ _ rfl (vx := .slice la l.length lc) (n := 0) [] rfl rfl ?c1 rfl hs0 ?c2 ?_)
  case c1 => simp
  case c2 => have := HN.out; omega
  clear hs0
  intro a1 k1 s1 w1 hk1 hO hb
  have rl := hb
  clear hb
  have hL := Lib.hid ((q_hL.out.below rl.out).mono rl.out.size)
  have hk := hk1.out
  subst hk
  have hO2 := Lib.hid (show OwnI _ w.heap.size _ l from (hO.out).lower (Nat.le_refl _))
  have ch := Lib.hid (ch.out.trans (rl.out.mono ch.out.size))
  clear hO rl
  go_wp2
  go_ret
  exact ⟨_, _, rfl, hO2.out, ch.out⟩
theorem ttail_any (w : World) : Calls Try.prog 85 #[] w fun e w' => ∃ v, e = .returned v ∧ InsRow w' w'.heap.size v [⟨4, 0, 0, 0, ⟨#[]⟩⟩] ∧ Below w.heap.size w w' := by
  go_enter Try.func85, Try.ntmps85
  go_wp2
  go_ret
  exact ⟨_, rfl, (OwnI.lit w [⟨4, 0, 0, 0, ⟨#[]⟩⟩] (by simp only [List.forall_mem_cons, List.not_mem_nil, false_imp_iff, implies_true, and_true]; exact wf_lit _ _ _ _ _ (by unfold i64; decide) (by unfold i64; decide) (by unfold i64; decide) (by unfold i64; decide) (by decide)) (by simp)).row (by simp), (Below.refl _ _).alloc (Nat.le_refl _) _⟩
theorem tset_any (t : ByteArray) (ht : t.size ≤ 1000000) (w : World) : Calls Try.prog 113 #[.string t] w fun e w' => ∃ v, e = .returned v ∧ InsRow w' w'.heap.size v [setI 0 t] ∧ Below w.heap.size w w' := by
  have hT := Lib.hid ht
  clear ht
  go_enter Try.func113, Try.ntmps113
  go_wp2
  go_ret
  exact ⟨_, rfl, (OwnI.lit w [setI 0 t] (by simp only [List.forall_mem_cons, List.not_mem_nil, false_imp_iff, implies_true, and_true]; exact setI_wf _ _ (by omega) (by have := hT.out; omega)) (by simp)).row (by simp), (Below.refl _ _).alloc (Nat.le_refl _) _⟩
set_option maxHeartbeats 4000000 in
theorem tregs_ok (v : Value) (l : List Ins) (w : World) (hl : InsRow w w.heap.size v l) (hv : validB l = true) :
    Calls Try.prog 56 #[v] w fun e w' => e = .returned (.int .i64 (regN l : Nat)) ∧ Below w.heap.size w w' := by
  have hn4 := validB_len hv
  have HV := Lib.hid (validB_all hv)
  obtain ⟨ao, cap, rfl⟩ := hl.len
  obtain ⟨n, hn'⟩ : ∃ n, l.length = n := ⟨_, rfl⟩
  rw [hn'] at hl hn4 ⊢
  have HN := Lib.hid hn'; clear hn' hv
  obtain ⟨R, hR⟩ : ∃ R, regN l = R := ⟨_, rfl⟩
  rw [hR]
  have HR := Lib.hid hR; clear hR
  have hl1 := Lib.hid hl
  clear hl
  go_enter Try.func56, Try.ntmps56
  go_wp2
  go_loopg [3, 4] n (fun gg m i wr => ∃ k q : Nat, k ≤ n ∧ gg = n - k ∧ i = .int .i64 k ∧ m = .int .i64 q ∧ q < 32 ∧ Aside (q = mostN (l.take k)) ∧ Below w.heap.size w wr)
  case atStart => exact ⟨0, 0, by omega, rfl, rfl, rfl, by omega, rfl, Below.refl _ _⟩
  case round =>
    obtain ⟨k, q, hk, hg, rfl, rfl, hq, hs, hbw⟩ := hrel
    have HG := Lib.hid hg; clear hg
    by_cases hlt : k < n
    · obtain ⟨x, hx⟩ : ∃ s, l[k]? = some s := ⟨_, List.getElem?_eq_getElem (by rw [HN.out]; exact hlt)⟩
      have hl2 := hl1.out.below hbw
      obtain ⟨g, off, rfl, hg, c0, c1, c2, c3, c4⟩ := hl2.get hx
      have hr := rightAll_get HV.out hx
      obtain ⟨a, ha, ha2, hbc⟩ := right_nats hr
      have hsn : Hid (mostN (l.take (k + 1)) = max q (rX x)) := by show _ = _; rw [mostN_succ l k hx, hs.out]
      have hi0 : (0 : Int) ≤ (k : Int) := Int.natCast_nonneg _
      have hi1 : (k : Int) < (n : Int) := by omega
      by_cases ho : x.op = 5
      · have hop : (x.op == 5) = true := by rw [ho]; rfl
        have hrx : Hid (rX x = a) := by show _ = _; unfold rX; rw [if_pos ho, ha]; simp
        clear ho hr hx hl2 hbc
        rw [ha] at c1
        clear ha
        go_wp2
        all_goals (
        go_roundg (n - (k + 1))
        case measure => rw [HG.out]; omega
        case rel => exact ⟨k + 1, max q a, by omega, rfl, by go_num, by congr 1; omega, by omega, by show _ = _; rw [hsn.out, hrx.out], hbw⟩)
      · have hop : (x.op == 5) = false := by rw [beq_eq_false_iff_ne]; exact ho
        obtain ⟨b, c, hb, hc, hb32, hc32⟩ := hbc ho
        have hrx : Hid (rX x = max a (max b c)) := by show _ = _; unfold rX; rw [if_neg ho, ha, hb, hc]; simp
        clear ho hr hx hl2 hbc
        rw [ha] at c1
        rw [hb] at c2
        rw [hc] at c3
        clear ha hb hc
        go_wp2
        go_quiet (fail)
        go_wp2
        all_goals (
        go_roundg (n - (k + 1))
        case measure => rw [HG.out]; omega
        case rel => exact ⟨k + 1, max q (max a (max b c)), by omega, rfl, by go_num, by congr 1; omega, by omega, by show _ = _; rw [hsn.out, hrx.out], below_drewN hbw _⟩)
    · have hkn : k = n := by omega
      subst hkn
      have hR1 : Hid ((q : Int) + 1 = (R : Nat)) := Lib.hid (by have h1 := HR.out; have h2 := hs.out; unfold regN at h1; rw [← HN.out, mostN_all] at h2; omega)
      have HBW := Lib.hid hbw
      clear hlt hk hs HG hbw
      go_wp2
      go_ret
      exact ⟨by rw [hR1.out]; rfl, HBW.out⟩


/-- What good takes. -/
def goodB (l : List Ins) (most chars : Nat) : Bool := decide (l.length ≤ most) && decide (trees l ≤ chars) && rightAll l
theorem goodB_valid {l : List Ins} {most chars : Nat} (h : goodB l most chars = true) (h1 : most ≤ 4000) (h2 : chars ≤ 2000000) : validB l = true := by
  unfold goodB at h
  unfold validB
  simp only [Bool.and_eq_true, decide_eq_true_eq] at h ⊢
  exact ⟨⟨by omega, by omega⟩, h.2⟩
theorem goodB_whole (l : List Ins) : goodB l 4000 2000000 = validB l := rfl
theorem goodB_right {l : List Ins} {most chars : Nat} {k : Nat} {x : Ins} (hx : l[k]? = some x) (h : rightB x k l.length = false) : goodB l most chars = false := by
  unfold goodB
  rw [Bool.and_eq_false_iff]
  refine .inr ?_
  rw [Bool.eq_false_iff]
  intro hr
  have := rightAll_get hr hx
  rw [this] at h; cases h
theorem goodB_chars {l : List Ins} {most chars : Nat} (k : Nat) (h : chars < trees (l.take k)) : goodB l most chars = false := by
  unfold goodB
  rw [decide_eq_false (p := trees l ≤ chars) (by have := trees_take l k; omega), Bool.and_false, Bool.false_and]
set_option maxRecDepth 20000 in
set_option maxHeartbeats 16000000 in
theorem tgood_any (v : Value) (l : List Ins) (most chars : Nat) (hmost : most ≤ 4000) (hchars : chars ≤ 2000000) (w : World) (hl : InsRow w w.heap.size v l) :
    Calls Try.prog 17 #[v, .int .i64 most, .int .i64 chars] w fun e w' => e = .returned (.bool (goodB l most chars)) ∧ Below w.heap.size w w' := by
  obtain ⟨ao, cap, rfl⟩ := hl.len
  have hl63 := hl.2.1
  obtain ⟨n, hn'⟩ : ∃ n, l.length = n := ⟨_, rfl⟩
  rw [hn'] at hl hl63 ⊢
  have HN := Lib.hid hn'
  have hlw := Lib.hid hl
  obtain ⟨G, hG⟩ : ∃ G, goodB l most chars = G := ⟨_, rfl⟩
  rw [hG]
  have HGB := Lib.hid hG
  have hmI : (most : Int) ≤ 4000 := by omega
  have hcI : (chars : Int) ≤ 2000000 := by omega
  have hcN := Lib.hid hchars
  clear hl hn' hG hmost hchars
  by_cases hlong : (most : Int) < n
  · have hF : G = false := by rw [← HGB.out]; unfold goodB; rw [decide_eq_false (p := l.length ≤ most) (by rw [HN.out]; omega), Bool.false_and, Bool.false_and]
    subst hF
    go_enter Try.func17, Try.ntmps17
    go_wp2
    go_ret
    exact ⟨rfl, Below.refl _ _⟩
  · have hlong2 : ¬ most < n := by omega
    have hn4 : (n : Int) ≤ 4000 := by omega
    clear hl63
    go_enter Try.func17, Try.ntmps17
    go_wp2
    go_loopg [7, 8] n (fun gg m i wr => ∃ k q : Nat, k ≤ n ∧ gg = n - k ∧ m = .int .i64 q ∧ i = .int .i64 k ∧ q ≤ chars ∧ Hid (q = trees (l.take k) ∧ ∀ (j : Nat) x, j < k → l[j]? = some x → rightB x j n = true) ∧ Below w.heap.size w wr)
    case atStart => exact ⟨0, 0, by omega, rfl, rfl, rfl, by omega, Lib.hid ⟨rfl, fun j x h => by omega⟩, Below.refl _ _⟩
    case round =>
      obtain ⟨k, q, hk, hg, rfl, rfl, hq, hs, hbw⟩ := hrel
      have HG := Lib.hid hg
      clear hg
      by_cases hlt : k < n
      · obtain ⟨⟨op, a, b, c, tree⟩, hx⟩ : ∃ s, l[k]? = some s := ⟨_, List.getElem?_eq_getElem (by rw [HN.out]; exact hlt)⟩
        have hl2 := hlw.out.below hbw
        obtain ⟨g, off, rfl, hg, c0, c1, c2, c3, c4⟩ := hl2.get hx
        obtain ⟨w1, w2, w3, w4, w5⟩ := hl2.wf hx
        simp only at w1 w2 w3 w4 w5 c0 c1 c2 c3 c4
        unfold i64 at w1 w2 w3 w4
        have hi0 : (0 : Int) ≤ (k : Int) := Int.natCast_nonneg _
        have hi1 : (k : Int) < (n : Int) := by omega
        have hqI : (q : Int) ≤ 2000000 := by omega
        have htI : (tree.size : Int) ≤ 140737488355328 := by omega
        have HX := Lib.hid hx
        have hsn := Lib.hid (show trees (l.take (k + 1)) = q + tree.size by rw [take_snoc' _ _ _ hx, trees_snoc, ← hs.out.1])
        obtain ⟨r, hr⟩ : ∃ r, rightB ⟨op, a, b, c, tree⟩ k n = r := ⟨_, rfl⟩
        have HR := Lib.hid hr
        have HB0 := Lib.hid (hbw.alloc hbw.size (.cells #[.int .i64 op, .int .i64 a, .int .i64 b, .int .i64 c, .string tree] 41))
        have hblk := Lib.hid (heap_alloc_new wr (.cells #[.int .i64 op, .int .i64 a, .int .i64 b, .int .i64 c, .string tree] 41))
        have Kfail := Lib.hid (fun (h : r = false) => show G = false by rw [← HGB.out]; exact goodB_right HX.out (by rw [HN.out, HR.out]; exact h))
        have Kok := Lib.hid (fun (h : r = true) => show (q + tree.size = trees (l.take (k + 1)) ∧ ∀ (j : Nat) x, j < k + 1 → l[j]? = some x → rightB x j n = true) from ⟨hsn.out.symm, fun j x hj hjx => by
          by_cases e : j = k
          · subst e
            rw [HX.out] at hjx
            injection hjx with hjx
            subst hjx
            rw [HR.out]; exact h
          · exact hs.out.2 j x (by omega) hjx⟩)
        clear hx hl2 hs
        by_cases hbig : (chars : Int) < (q : Int) + tree.size
        · have hF : G = false := by rw [← HGB.out]; exact goodB_chars (k + 1) (by rw [hsn.out]; omega)
          subst hF
          clear hr
          go_wp2
          go_ret
          exact ⟨rfl, HB0.out⟩
        have hbig2 : q + tree.size ≤ chars := by omega
        have hbig3 : ¬ chars < q + tree.size := by omega
        unfold rightB at hr
        simp only at hr
        cases hra : regB a with
        | false =>
          have ka := treg_any a _ hra
          rw [hra] at hr
          simp only [Bool.false_and] at hr
          subst hr
          go_wp2_with fail
          refine (ka _).mono ?_
          rintro e w' ⟨rfl, rfl⟩
          go_wp2
          have hF := Kfail.out (by first | trivial | rfl)
          subst hF
          go_ret
          exact ⟨rfl, HB0.out⟩
        | true =>
          have ka := treg_any a _ hra
          rw [hra] at hr
          simp only [Bool.true_and] at hr
          by_cases o0 : op = 0
          · subst o0
            simp only [show ((0 : Int) == 0) = true from rfl, show ((0 : Int) == 2) = false from rfl, Bool.true_or, Bool.true_and, Bool.false_or, if_pos] at hr
            cases hc : (c == 0) with
            | false =>
              rw [hc] at hr
              simp only [Bool.false_and] at hr
              subst hr
              have hc' : (c != 0) = true := by show (!(c == 0)) = true; rw [hc]; rfl
              go_wp2_with fail
              refine (ka _).mono ?_
              rintro e w' ⟨rfl, rfl⟩
              go_wp2
              have hF := Kfail.out (by first | trivial | rfl)
              subst hF
              go_ret
              exact ⟨rfl, HB0.out⟩
            | true =>
              rw [hc] at hr
              simp only [Bool.true_and] at hr
              have hc' : (c != 0) = false := by show (!(c == 0)) = false; rw [hc]; rfl
              have kg := tgrow_any tree (by omega) chars hcN.out
              have hgb : growB tree chars = isTree tree := by unfold growB; rw [decide_eq_true (by omega), Bool.and_true]
              obtain ⟨bt, hbt⟩ : ∃ b, isTree tree = b := ⟨_, rfl⟩
              rw [hbt] at hr hgb
              have HGT := Lib.hid hgb
              clear hbt hgb
              go_wp2_with fail
              refine (ka _).mono ?_
              rintro e w' ⟨rfl, rfl⟩
              go_wp2_with fail
              refine (kg _).mono ?_
              rintro e w5 ⟨p5, rfl, -, -, hb5⟩
              rw [HGT.out]
              have HB0 := Lib.hid (HB0.out.trans (hb5.mono HB0.out.size))
              have hblk5 := (hb5.block wr.heap.size (by simp)).trans hblk.out
              have c0 := (block_cells hblk5).1 0
              have c1 := (block_cells hblk5).1 1
              have c2 := (block_cells hblk5).1 2
              have c3 := (block_cells hblk5).1 3
              have c4 := (block_cells hblk5).1 4
              simp only [List.getElem?_toArray, List.getElem?_cons_zero, List.getElem?_cons_succ] at c0 c1 c2 c3 c4
              clear hblk5 hb5
              cases hb : (b == 0) <;> rw [hb] at hr <;> cases bt <;> simp only [Bool.false_and, Bool.true_and] at hr <;> subst hr
              all_goals
                have hb' : (b != 0) = !(b == 0) := rfl
                rw [hb] at hb'
                go_wp2
                first
                  | (
                    have hF := Kfail.out (by first | trivial | rfl)
                    subst hF
                    go_ret
                    exact ⟨rfl, HB0.out⟩
                    )
                  | (
                    have hok := Kok.out (by first | trivial | rfl)
                    go_roundg (n - (k + 1))
                    case measure => rw [HG.out]; omega
                    case rel => exact ⟨k + 1, q + tree.size, by omega, rfl, by go_num, by go_num, by omega, Lib.hid hok, HB0.out⟩
                    )
          · have o0' : (op == 0) = false := by simpa using o0
            have o0n : (op != 0) = true := by simpa using o0
            rw [o0', if_neg o0] at hr
            simp only [Bool.false_or] at hr
            cases he : tree.toList.isEmpty with
            | false =>
              rw [he] at hr
              simp only [Bool.false_and] at hr
              subst hr
              have hen : (!tree.toList.isEmpty) = true := by rw [he]; rfl
              go_wp2_with fail
              refine (ka _).mono ?_
              rintro e w' ⟨rfl, rfl⟩
              go_wp2
              have hF := Kfail.out (by first | trivial | rfl)
              subst hF
              go_ret
              exact ⟨rfl, HB0.out⟩
            | true =>
              have hen : (!tree.toList.isEmpty) = false := by rw [he]; rfl
              rw [he] at hr
              simp only [Bool.true_and] at hr
              by_cases o2 : op = 2
              · subst o2
                rw [if_neg (by decide), if_pos rfl] at hr
                simp only [show ((2 : Int) == 2) = true from rfl, Bool.true_or, Bool.true_and] at hr
                have kb := treg_any b _ rfl
                have kc := treg_any c _ rfl
                cases hb : regB b <;> cases hcc : regB c <;> rw [hb] at hr kb <;> rw [hcc] at hr kc <;> simp only [Bool.false_and, Bool.true_and] at hr <;> subst hr
                all_goals
                  go_wp2_with fail
                  refine (ka _).mono ?_
                  rintro e w' ⟨rfl, rfl⟩
                  go_wp2_with fail
                  refine (kb _).mono ?_
                  rintro e w' ⟨rfl, rfl⟩
                  go_wp2_with fail
                  try (refine (kc _).mono ?_; rintro e w' ⟨rfl, rfl⟩; go_wp2)
                  first
                    | (
                      have hF := Kfail.out (by first | trivial | rfl)
                      subst hF
                      go_ret
                      exact ⟨rfl, HB0.out⟩
                      )
                    | (
                      have hok := Kok.out (by first | trivial | rfl)
                      go_roundg (n - (k + 1))
                      case measure => rw [HG.out]; omega
                      case rel => exact ⟨k + 1, q + tree.size, by omega, rfl, by go_num, by go_num, by omega, Lib.hid hok, HB0.out⟩
                      )
              · have o2' : (op == 2) = false := by simpa using o2
                have o2n : (op != 2) = true := by simpa using o2
                rw [o2'] at hr
                simp only [Bool.false_or] at hr
                cases hc : (c == 0) with
                | false =>
                  have hc' : (c != 0) = true := by show (!(c == 0)) = true; rw [hc]; rfl
                  rw [hc] at hr
                  simp only [Bool.false_and] at hr
                  subst hr
                  go_wp2_with fail
                  refine (ka _).mono ?_
                  rintro e w' ⟨rfl, rfl⟩
                  go_wp2
                  have hF := Kfail.out (by first | trivial | rfl)
                  subst hF
                  go_ret
                  exact ⟨rfl, HB0.out⟩
                | true =>
                  have hc' : (c != 0) = false := by show (!(c == 0)) = false; rw [hc]; rfl
                  rw [hc] at hr
                  simp only [Bool.true_and] at hr
                  by_cases o134 : op = 1 ∨ op = 3 ∨ op = 4
                  · rw [if_pos o134] at hr
                    have kb := treg_any b _ hr
                    rcases o134 with rfl | rfl | rfl
                    all_goals
                      cases r
                      all_goals
                        go_wp2_with fail
                        refine (ka _).mono ?_
                        rintro e w' ⟨rfl, rfl⟩
                        go_wp2_with fail
                        refine (kb _).mono ?_
                        rintro e w' ⟨rfl, rfl⟩
                        go_wp2
                        first
                          | (
                            have hF := Kfail.out (by first | trivial | rfl)
                            subst hF
                            go_ret
                            exact ⟨rfl, HB0.out⟩
                            )
                          | (
                            have hok := Kok.out (by first | trivial | rfl)
                            go_roundg (n - (k + 1))
                            case measure => rw [HG.out]; omega
                            case rel => exact ⟨k + 1, q + tree.size, by omega, rfl, by go_num, by go_num, by omega, Lib.hid hok, HB0.out⟩
                            )
                  · rw [if_neg o134, if_neg o2] at hr
                    by_cases o5 : op = 5
                    · subst o5
                      rw [if_pos rfl] at hr
                      cases d1 : decide (-(k : Int) ≤ b) <;> cases d2 : decide (b ≤ (n : Int) - k) <;> rw [d1, d2] at hr
                      · exfalso
                        simp only [decide_eq_false_iff_not] at d1 d2
                        omega
                      all_goals
                        simp only [Bool.and_true, Bool.and_false, Bool.and_self] at hr
                        subst hr
                        have e1 := d1
                        have e2 := d2
                        simp only [decide_eq_true_eq, decide_eq_false_iff_not, Int.not_le] at e1 e2
                        go_wp2_with fail
                        refine (ka _).mono ?_
                        rintro e w' ⟨rfl, rfl⟩
                        go_wp2
                        first
                          | (
                            have hF := Kfail.out (by first | trivial | rfl)
                            subst hF
                            go_ret
                            exact ⟨rfl, HB0.out⟩
                            )
                          | (
                            have hok := Kok.out (by first | trivial | rfl)
                            go_roundg (n - (k + 1))
                            case measure => rw [HG.out]; omega
                            case rel => exact ⟨k + 1, q + tree.size, by omega, rfl, by go_num, by go_num, by omega, Lib.hid hok, HB0.out⟩
                            )
                    · rw [if_neg o5] at hr
                      subst hr
                      have b1 : (op == 1) = false := by simp; omega
                      have b3 : (op == 3) = false := by simp; omega
                      have b4 : (op == 4) = false := by simp; omega
                      have b5 : (op == 5) = false := by simp; omega
                      go_wp2_with fail
                      refine (ka _).mono ?_
                      rintro e w' ⟨rfl, rfl⟩
                      go_wp2
                      have hF := Kfail.out (by first | trivial | rfl)
                      subst hF
                      go_ret
                      exact ⟨rfl, HB0.out⟩
      · have hkn : k = n := by omega
        subst hkn
        have hT : G = true := by
          rw [← HGB.out]
          unfold goodB
          simp only [Bool.and_eq_true, decide_eq_true_eq]
          refine ⟨⟨by rw [HN.out]; omega, ?_⟩, rightAll_iff.2 fun i x hx => by rw [HN.out]; exact hs.out.2 i x (by rw [← HN.out]; exact (List.getElem?_eq_some_iff.1 hx).1) hx⟩
          have h1 := hs.out.1
          rw [List.take_of_length_le (by rw [HN.out]; exact Nat.le_refl _)] at h1
          omega
        subst hT
        go_wp2
        go_ret
        exact ⟨rfl, hbw⟩
theorem twhole_any (v : Value) (l : List Ins) (b : Bool) (hb : validB l = b) (w : World) (hl : InsRow w w.heap.size v l) : Calls Try.prog 47 #[v] w fun e w' => e = .returned (.bool b) ∧ Below w.heap.size w w' := by
  have kg := Lib.hid (tgood_any v l 4000 2000000 (by omega) (by omega) w hl)
  rw [goodB_whole, hb] at kg
  obtain ⟨la, lc, rfl⟩ := hl.len
  clear hl hb
  go_enter Try.func47, Try.ntmps47
  go_wp2_with fail
  refine kg.out.mono ?_
  rintro e w1 ⟨rfl, hb1⟩
  go_wp2
  go_ret
  exact ⟨rfl, hb1⟩
/-- What few takes. -/
def fewB (ls : List (List Ins)) : Bool := ls.all fun l => goodB l 60 2000 && decide (regN l ≤ 28)
theorem fewB_get {ls : List (List Ins)} (h : fewB ls = true) {l : List Ins} (hl : l ∈ ls) : validB l = true ∧ regN l ≤ 28 ∧ l.length ≤ 60 ∧ trees l ≤ 2000 := by
  unfold fewB at h
  rw [List.all_eq_true] at h
  have h1 := h l hl
  simp only [Bool.and_eq_true, decide_eq_true_eq] at h1
  have h2 := h1.1
  unfold goodB at h2
  simp only [Bool.and_eq_true, decide_eq_true_eq] at h2
  exact ⟨goodB_valid h1.1 (by omega) (by omega), h1.2, h2.1.1, h2.1.2⟩
set_option maxRecDepth 20000 in
set_option maxHeartbeats 4000000 in
theorem tfew_any (v : Value) (ls : List (List Ins)) (hls : ls.length ≤ 10) (w : World) (hl : ProgsRow w w.heap.size v ls) :
    Calls Try.prog 53 #[v] w fun e w' => e = .returned (.bool (fewB ls)) ∧ Below w.heap.size w w' := by
  obtain ⟨ao, cap, rfl⟩ := hl.len
  obtain ⟨n, hn⟩ : ∃ n, ls.length = n := ⟨_, rfl⟩
  rw [hn] at hl hls ⊢
  have HN := Lib.hid hn
  have hL := Lib.hid hl
  obtain ⟨FB, hFB⟩ : ∃ F, fewB ls = F := ⟨_, rfl⟩
  rw [hFB]
  have HFB := Lib.hid hFB
  have ch := Lib.hid (Below.refl w.heap.size w)
  clear hl hn hFB
  go_enter Try.func53, Try.ntmps53
  go_wp2
  go_loopg [3] n (fun g i wr => ∃ (k : Nat), k ≤ n ∧ g = n - k ∧ i = .int .i64 k ∧ Hid (fewB (ls.take k) = true) ∧ Below w.heap.size w wr)
  case atStart => exact ⟨0, by omega, rfl, rfl, Lib.hid rfl, Below.refl _ _⟩
  case round =>
    obtain ⟨k, hk, hg, rfl, hVk, hq⟩ := hrel
    have HG := Lib.hid hg
    have hL := Lib.hid (hL.out.step hq)
    have ch := Lib.hid (ch.out.trans (hq.mono ch.out.size))
    clear hg hq
    by_cases hlt : k < n
    · obtain ⟨l, hlk⟩ : ∃ l, ls[k]? = some l := ⟨_, List.getElem?_eq_getElem (by rw [HN.out]; exact hlt)⟩
      obtain ⟨g, off, u, rfl, hg, c0, hu⟩ := hL.out.get hlk
      obtain ⟨ua, uc, rfl⟩ := hu.len
      have HLK := Lib.hid hlk
      have hU := Lib.hid hu
      have hsn := Lib.hid (show fewB (ls.take (k + 1)) = (goodB l 60 2000 && decide (regN l ≤ 28)) by
        have h1 := hVk.out
        unfold fewB at h1 ⊢
        rw [take_snoc' _ _ _ hlk, List.all_append, h1]; simp)
      have hbad := Lib.hid (fun (h : (goodB l 60 2000 && decide (regN l ≤ 28)) = false) => show FB = false by
        rw [← HFB.out, Bool.eq_false_iff]
        intro hall
        unfold fewB at hall
        rw [List.all_eq_true] at hall
        have := hall l (List.mem_of_getElem? hlk)
        rw [h] at this; cases this)
      obtain ⟨bg, hbg⟩ : ∃ b, goodB l 60 2000 = b := ⟨_, rfl⟩
      have HG1 := Lib.hid hbg
      have kg := Lib.hid (fun v w hl => tgood_any v l 60 2000 (by omega) (by omega) w hl)
      rw [hbg] at kg hsn hbad
      clear hu hlk hbg
      go_wp2_with fail
      refine (kg.out _ _ hU.out).mono ?_
      rintro e w1 ⟨rfl, hq⟩
      have hL := Lib.hid (hL.out.step hq)
      have ch := Lib.hid (ch.out.trans (hq.mono ch.out.size))
      clear hq c0
      cases bg with
      | false =>
        have hF := hbad.out (by simp)
        subst hF
        go_wp2
        go_ret
        exact ⟨rfl, ch.out⟩
      | true =>
        obtain ⟨g2, off2, u2, hgo2, hg2, c0, hu⟩ := hL.out.get HLK.out
        injection hgo2 with hgo2
        injection hgo2 with hgo3 hgo4
        subst hgo3
        have hoo : off = off2 := by omega
        subst hoo
        obtain ⟨ua2, uc2, rfl⟩ := hu.len
        have hv := goodB_valid HG1.out (by omega) (by omega)
        have kr := Lib.hid (tregs_ok _ l _ hu hv)
        obtain ⟨R, hR⟩ : ∃ R, regN l = R := ⟨_, rfl⟩
        have hR32 := (regN_le (validB_all hv)).2
        rw [hR] at kr hsn hbad hR32
        clear hu hgo4 hR hv
        have hRI : (R : Int) ≤ 32 := by omega
        go_wp2_with fail
        refine kr.out.mono ?_
        rintro e wz ⟨rfl, hq⟩
        have ch := Lib.hid (ch.out.trans (hq.mono ch.out.size))
        clear hq kr
        by_cases hr : (28 : Int) < R
        · have hF := hbad.out (by simp; omega)
          subst hF
          go_wp2
          go_ret
          exact ⟨rfl, ch.out⟩
        · have HVS := Lib.hid (show fewB (ls.take (k + 1)) = true by rw [hsn.out]; simp; omega)
          clear hVk hsn hbad
          go_wp2
          go_roundg (n - (k + 1))
          case measure => rw [HG.out]; omega
          case rel => exact ⟨k + 1, by omega, rfl, by go_num, HVS, ch.out⟩
    · obtain rfl : k = n := by omega
      have hT : FB = true := by have h := hVk.out; rw [List.take_of_length_le (by rw [HN.out]; exact Nat.le_refl _), HFB.out] at h; exact h
      subst hT
      go_wp2
      go_ret
      exact ⟨rfl, ch.out⟩
end Go.Proofs.Ytlaeljkjdfffjaa

namespace Go.Proofs.Ytlaeljkjdfffjaa
open Go.RowKit

theorem make_cells (n : Nat) (hn : n ≤ 4000) (w : World) : (Instr.makeSlice 98 (.int .i64 (n : Nat)) (.int .i64 (n : Nat))).run Try.prog w = .ok (.slice (some ⟨w.heap.size, 0, none⟩) n n) (w.alloc (.cells (nilsA n) 25)) := by
  obtain ⟨i, hi, hz, hsize, hbytes⟩ := info_parts el_cell.hi
  have h := run_make (P := Try.prog) w 98 25 i (.pointer none) el_cell.ht hi hz .i64 .i64 n n (by omega) (by omega) (by rw [hbytes]; omega) (by omega)
  rw [h, hsize]
  simp only [Int.toNat_natCast, Nat.mul_one, madeCells_nils]
theorem tsize_q {t : Tr} {v : Value} {w : World} (h : NodeP 102 w t v) (n : Nat) : Calls Try.prog 60 #[v] (w.drewN n) fun e w' => e = .returned (.int .i64 t.size) ∧ w' = w.drewN n :=
  (tsize_any t v _ (h.kept (Kept.below (below_drewN (Below.refl _ _) n)))).mono fun _e _w' ⟨h1, h2⟩ => ⟨h1, h2.symm⟩
/-- The machine of follow. -/
structure FolP (w : World) (l : List Ins) (s : St) (n k : Nat) (wr : World) : Prop where
  regs : ∃ ps, wr.heap[w.heap.size]? = some (.cells ps.toArray 160 (0, 0)) ∧ Nodes 102 wr s.regs ps
  row : ∃ xs, Nodes 102 wr (setsK l k) xs ∧ wr.ownsRow (w.heap.size + 1) 25 1 (.slice (some ⟨w.heap.size + 1, 0, none⟩) n n) n xs
  b : Below w.heap.size w wr
section
variable {w : World} {l : List Ins} {s : St} {n k : Nat} {A B : World}
theorem FolP.lt (h : FolP w l s n k A) : w.heap.size < A.heap.size := by obtain ⟨ps, h1, _⟩ := h.regs; exact (Array.getElem?_eq_some_iff.1 h1).1
theorem FolP.below (h : FolP w l s n k A) (hb : Below A.heap.size A B) : FolP w l s n k B := by
  have hlt := h.lt
  obtain ⟨ps, h1, h2⟩ := h.regs
  obtain ⟨xs, h3, h4⟩ := h.row
  exact ⟨⟨ps, (hb.block _ hlt).trans h1, h2.kept (Kept.below hb)⟩, ⟨xs, h3.kept (Kept.below hb), own_below h4 hb⟩, h.b.trans (hb.mono h.b.size)⟩
theorem FolP.rowblk (h : FolP w l s n k A) : ∃ cur, A.heap[w.heap.size + 1]? = some (.cells cur 25 (0, 0)) := by
  obtain ⟨xs, h1, h2⟩ := h.row
  rcases h2.2 with ⟨h0, _⟩ | ⟨g', cap', cur, hv, _, hg, _⟩
  · cases h0
  · simp only [Value.slice.injEq, Option.some.injEq, Addr.mk.injEq] at hv
    obtain ⟨⟨rfl, -, -⟩, -, -⟩ := hv
    exact ⟨cur, hg⟩
theorem FolP.cellK (h : FolP w l s n k A) (j : Nat) (hj : j < n) : (∃ q, A.cell? ⟨w.heap.size + 1, j, none⟩ = some (.pointer q) ∧ ∀ t, (setsK l k)[j]? = some t → NodeP 102 A t (.pointer q)) ∧ A.frozen? ⟨w.heap.size + 1, j, none⟩ = false := by
  obtain ⟨xs, h1, h2⟩ := h.row
  have hl : xs.length = n := by have := h2.1; simpa using this
  have hn : j < (setsK l k).length := by rw [← h1.length]; omega
  obtain ⟨v, hv, hnv⟩ := h1.get (List.getElem?_eq_getElem hn)
  obtain ⟨q, rfl⟩ := hnv.ptr
  refine ⟨⟨q, by rw [World.ownsRow.cellAt h2 j (by omega), hv], fun t ht => ?_⟩, World.ownsRow.frozenAt h2 j⟩
  rw [List.getElem?_eq_getElem hn] at ht
  injection ht with ht
  rw [← ht]; exact hnv
theorem FolP.set (h : FolP w l s n k A) {x : Ins} (hx : l[k]? = some x) {q : Option Addr} (hq : NodeP 102 A (toTr x.tree) (.pointer q)) : FolP w l s n (k + 1) (A.setCell ⟨w.heap.size + 1, k, none⟩ (.pointer q)) := by
  obtain ⟨cur, hcur⟩ := h.rowblk
  obtain ⟨ps, h3, h4⟩ := h.regs
  obtain ⟨xs, h1, h2⟩ := h.row
  have hK := (Kept.refl 102 A).setCell hcur (by decide) (.pointer q) (a := ⟨w.heap.size + 1, k, none⟩)
  refine ⟨⟨ps, (Below.heap_setCell _ _ _ _ (by show w.heap.size ≠ w.heap.size + 1; omega)).trans h3, h4.kept hK⟩, ⟨_, ?_, own_set h2 k _⟩, h.b.setCell (p := ⟨w.heap.size + 1, k, none⟩) (Nat.le_succ _) _⟩
  rw [← setsK_succ l k hx]
  exact (h1.set k hq).kept hK
theorem FolP.skip (h : FolP w l s n k A) {x : Ins} (hx : l[k]? = some x) (h0 : toTr x.tree = .nil) : FolP w l s n (k + 1) A :=
  ⟨h.regs, by rw [← setsK_none l k hx h0]; exact h.row, h.b⟩
theorem FolP.reg (h : FolP w l s n k A) {j : Nat} {t : Tr} (hj : s.regs[j]? = some t) : ∃ q, A.cell? ⟨w.heap.size, j, none⟩ = some (.pointer q) ∧ NodeP 102 A t (.pointer q) ∧ A.frozen? ⟨w.heap.size, j, none⟩ = false := by
  obtain ⟨ps, h1, h2⟩ := h.regs
  obtain ⟨v, hv, hn⟩ := h2.get hj
  obtain ⟨q, rfl⟩ := hn.ptr
  refine ⟨q, ?_, hn, (block_cells h1).2 j⟩
  rw [(block_cells h1).1 j, List.getElem?_toArray, hv]
theorem FolP.setReg (h : FolP w l s n k A) {j : Nat} {t : Tr} {q : Option Addr} (hn : NodeP 102 A t (.pointer q)) (pos : Nat) : FolP w l ⟨pos, s.regs.set j t⟩ n k (A.setCell ⟨w.heap.size, j, none⟩ (.pointer q)) := by
  obtain ⟨ps, h1, h2⟩ := h.regs
  obtain ⟨xs, h3, h4⟩ := h.row
  have hK := (Kept.refl 102 A).setCell h1 (by decide) (.pointer q) (a := ⟨w.heap.size, j, none⟩)
  refine ⟨⟨ps.set j (.pointer q), ?_, (h2.set j hn).kept hK⟩, ⟨xs, h3.kept hK, own_kept h4 ((Kept.refl 25 A).setCell h1 (by decide) _)⟩, h.b.setCell (p := ⟨w.heap.size, j, none⟩) (Nat.le_refl _) _⟩
  rw [set_blk h1 j (.pointer q)]
  simp
end
/-- What follow hands back: what play does, and a number. -/
def Res.fol : Res → Tr × Int
  | .done s _ => (getR s.regs 0, 0)
  | .fuel _ _ => (.nil, 1)
  | .big => (.nil, 2)
def FolOut (w : World) (r : Res) (e : Ending) (w' : World) : Prop := ∃ q k m, e = .returned (.tuple #[.pointer q, .int .i64 k, .int .i64 r.fol.2, .int .i64 m]) ∧ NodeP 102 w' r.fol.1 (.pointer q) ∧ (∀ s j, r = .done s j → k = j) ∧ Below w.heap.size w w'
theorem node_nilT {T : Nat} {w : World} {q : Option Addr} (h : NodeP T w .nil (.pointer q)) : q = none := by
  have h1 : Value.pointer q = .pointer none := h
  injection h1
theorem jump_same {s : St} {a : Nat} {t : Tr} (ht : s.regs[a]? = some t) : s.regs.set a t = s.regs := by
  apply List.ext_getElem?
  intro i
  by_cases h : a = i
  · subst h; rw [List.getElem?_set_self (List.getElem?_eq_some_iff.1 ht).1, ht]
  · rw [List.getElem?_set_ne h]
theorem getR_of {s : St} {a : Nat} {t : Tr} (ht : s.regs[a]? = some t) : getR s.regs (a : Int) = t := by unfold getR; rw [Int.toNat_natCast, ht]; rfl
theorem setR_of (rs : List Tr) (a : Nat) (t : Tr) : setR rs (a : Int) t = rs.set a t := by unfold setR; rw [Int.toNat_natCast]
set_option maxRecDepth 20000 in
set_option maxHeartbeats 4000000 in
theorem fol_start (v : Value) (l : List Ins) (t : Tr) (x : Value) (K : Nat) (hK : K ≤ 100000000) (w : World) (hl : InsRow w w.heap.size v l) (hv : validB l = true) (hx : NodeP 102 w t x) (ht : t.size ≤ 2000000)
    : Calls Try.prog 86 #[v, x, .int .i64 K] w (FolOut w (goF l K 0 (startS t))) := by
  have hn4 := validB_len hv
  have HV := Lib.hid (validB_all hv)
  obtain ⟨ao, cap, rfl⟩ := hl.len
  obtain ⟨xp, rfl⟩ := hx.ptr
  obtain ⟨n, hn'⟩ : ∃ n, l.length = n := ⟨_, rfl⟩
  rw [hn'] at hl hn4 ⊢
  have HN := Lib.hid hn'
  obtain ⟨RR, hRR⟩ : ∃ R, goF l K 0 (startS t) = R := ⟨_, rfl⟩
  rw [hRR]
  have HRR := Lib.hid hRR
  have hlw := Lib.hid hl
  have HX := Lib.hid hx
  have HT := Lib.hid ht
  have HG0 := Lib.hid (Good.start l.length t ht)
  have hKI : (K : Int) ≤ 100000000 := by omega
  have hnI : (n : Int) ≤ 4000 := by omega
  clear hn' hv hl hx ht hRR
  have hmk := fun w => make_cells n hn4 w
  go_enter Try.func86, Try.ntmps86
  go_wp2
  have HS := Lib.hid (show FolP w l ⟨0, List.replicate 32 .nil⟩ n 0 ((w.alloc (.cells #[.pointer none, .pointer none, .pointer none, .pointer none, .pointer none, .pointer none, .pointer none, .pointer none, .pointer none, .pointer none, .pointer none, .pointer none, .pointer none, .pointer none, .pointer none, .pointer none, .pointer none, .pointer none, .pointer none, .pointer none, .pointer none, .pointer none, .pointer none, .pointer none, .pointer none, .pointer none, .pointer none, .pointer none, .pointer none, .pointer none, .pointer none, .pointer none] 160)).alloc (.cells (nilsA n) 25)) from by
    have h1 := heap_alloc_new w (.cells (List.replicate 32 (Value.pointer none)).toArray 160)
    have hsz : (w.alloc (.cells (List.replicate 32 (Value.pointer none)).toArray 160)).heap.size = w.heap.size + 1 := by simp
    have h2 := own_nils (w := w.alloc (.cells (List.replicate 32 (Value.pointer none)).toArray 160)) (e := 25) (base := w.heap.size + 1) (n := n) (by unfold maxLen; omega) (by rw [hsz]; exact Nat.le_refl _)
    rw [hsz] at h2
    refine ⟨⟨List.replicate 32 (.pointer none), ?_, Nodes.nils 32⟩, ⟨List.replicate n (.pointer none), ?_, h2⟩, ((Below.refl _ w).alloc (Nat.le_refl _) _).alloc (by simp) _⟩
    · exact (((Below.refl (w.heap.size + 1) _).alloc (by simp) _).block w.heap.size (by omega)).trans h1
    · have : setsK l 0 = List.replicate n .nil := by unfold setsK; simp [HN.out]
      rw [this]; exact Nodes.nils n)
  clear hmk
  go_loopg [12] n (fun gg i wr => ∃ k : Nat, k ≤ n ∧ gg = n - k ∧ i = .int .i64 k ∧ Hid (FolP w l ⟨0, List.replicate 32 .nil⟩ n k wr))
  case atStart => exact ⟨0, by omega, rfl, rfl, HS⟩
  case round =>
    obtain ⟨k, hk, hgg, rfl, hlp⟩ := hrel
    have HGG := Lib.hid hgg
    clear hgg HS
    have HBW := Lib.hid hlp.out.b
    have hgl := hlp.out.lt
    by_cases hlt : k < n
    · obtain ⟨y, hy⟩ : ∃ s, l[k]? = some s := ⟨_, List.getElem?_eq_getElem (by rw [HN.out]; exact hlt)⟩
      have hl2 := hlw.out.below HBW.out
      obtain ⟨pg, off, rfl, hpg, p0, p1, p2, p3, p4⟩ := hl2.get hy
      have hts := (hl2.wf hy).2.2.2.2
      have hr := rightAll_get HV.out hy
      have HY := Lib.hid hy
      have hi0 : (0 : Int) ≤ (k : Int) := Int.natCast_nonneg _
      have hi1 : (k : Int) < (n : Int) := by omega
      clear hy hl2 p1 p2 p3
      by_cases ho : y.op = 0
      · have hop : (y.op == 0) = true := by rw [ho]; rfl
        have htr : isTree y.tree = true := by
          unfold rightB at hr
          rw [if_pos ho] at hr
          simp only [Bool.and_eq_true] at hr
          exact hr.2.2
        have hgb : growB y.tree 2000000 = true := by
          unfold growB
          rw [htr, Bool.true_and]
          unfold isTree at htr
          simp only [Bool.and_eq_true] at htr
          exact htr.1
        have kg := Lib.hid (fun w => tgrow_any y.tree hts 2000000 (by omega) w)
        have HGT := Lib.hid hgb
        clear hr ho hts htr hgb
        go_wp2_with fail
        refine (kg.out _).mono ?_
        rintro e w2 ⟨p, rfl, hnp, -, hb2⟩
        rw [HGT.out]
        have HNP := Lib.hid (hnp HGT.out)
        have hlp2 := Lib.hid (hlp.out.below hb2)
        obtain ⟨⟨qk, ck, -⟩, fk⟩ := hlp2.out.cellK k hlt
        have hnew := Lib.hid (hlp2.out.set HY.out HNP.out)
        clear kg hnp hb2 p0 p4
        go_wp2
        go_roundg (n - (k + 1))
        case measure => rw [HGG.out]; omega
        case rel => exact ⟨k + 1, by omega, rfl, by go_num, hnew⟩
      · have hop : (y.op == 0) = false := by rw [beq_eq_false_iff_ne]; exact ho
        have h0 : toTr y.tree = .nil := by
          unfold rightB at hr
          simp only [Bool.and_eq_true, Bool.or_eq_true, beq_iff_eq] at hr
          rcases hr.1.1.2 with h | h
          · exact absurd h ho
          · exact toTr_empty h
        have hnew := Lib.hid (hlp.out.skip HY.out h0)
        clear hr ho h0
        go_wp2
        go_roundg (n - (k + 1))
        case measure => rw [HGG.out]; omega
        case rel => exact ⟨k + 1, by omega, rfl, by go_num, hnew⟩
    · have hkn : k = n := by omega
      subst hkn
      have HX1 := Lib.hid (HX.out.kept (Kept.below HBW.out))
      obtain ⟨q0, c0, -, f0⟩ := hlp.out.reg (j := 0) (t := .nil) rfl
      have HS := Lib.hid (show FolP w l (startS t) k k (wr.setCell ⟨w.heap.size, 0, none⟩ (.pointer xp)) from hlp.out.setReg (j := 0) HX1.out 0)
      have HX2 := Lib.hid (show NodeP 102 (wr.setCell ⟨w.heap.size, 0, none⟩ (.pointer xp)) t (.pointer xp) from by
        obtain ⟨ps, h1, -⟩ := hlp.out.regs
        exact HX1.out.kept ((Kept.refl _ _).setCell h1 (by decide) _))
      obtain ⟨tz, htz⟩ : ∃ z, t.size = z := ⟨_, rfl⟩
      have ks := Lib.hid (tsize_any t _ _ HX2.out)
      rw [htz] at ks
      have htzI : (tz : Int) ≤ 2000000 := by have := HT.out; omega
      clear hlp hlt htz
      go_wp2_with fail
      refine ks.out.mono ?_
      rintro e wq ⟨rfl, rfl⟩
      obtain ⟨W2, hW2⟩ : ∃ B, wr.setCell ⟨w.heap.size, 0, none⟩ (.pointer xp) = B := ⟨_, rfl⟩
      rw [hW2] at HS ⊢
      clear hW2 ks HX1 HX2 HBW c0 f0 hgl
      go_wp2
      go_loopg [13, 14, 15, 16] K (fun gg at_ al mo ki wr => ∃ (j : Nat) (a m : Int), j ≤ K ∧ gg = K - j ∧ at_ = .int .i64 (stN l (startS t) j).pos ∧ al = .int .i64 a ∧ mo = .int .i64 m ∧ ki = .int .i64 j ∧ Hid (Reach l (startS t) j) ∧ Hid (FolP w l (stN l (startS t) j) k k wr))
      case atStart => exact ⟨0, _, _, by omega, rfl, rfl, rfl, rfl, rfl, Reach.zero _ _, HS⟩
      case round =>
        obtain ⟨j, al, mo, hj, hgg, rfl, rfl, rfl, rfl, hre, hat⟩ := hrel
        have HGG := Lib.hid hgg
        have HGJ := Lib.hid (hre.out.good HV.out HG0.out)
        have HGF := Lib.hid (hre.out.goF K hj)
        rw [HRR.out] at HGF
        have KSUC := Lib.hid (fun s' (hp : (stN l (startS t) j).pos ≠ l.length) (hs : stepP l (stN l (startS t) j) = some s') => (show Reach l (startS t) (j + 1) ∧ stN l (startS t) (j + 1) = s' from ⟨hre.out.succ hp hs, stN_succ hs⟩))
        clear hgg HS hre
        generalize stN l (startS t) j = s at *
        have hgl := hat.out.lt
        have HBW := Lib.hid hat.out.b
        have h32 := HGJ.out.2.1
        obtain ⟨P, hP⟩ : ∃ P, s.pos = P := ⟨_, rfl⟩
        have HP := Lib.hid hP
        rw [hP]
        have hPk : P ≤ k := by have := HGJ.out.1; rw [HP.out, HN.out] at this; exact this
        have hjI : (j : Int) ≤ 100000000 := by omega
        clear hP
        by_cases hend : P = k
        · have hfin := Lib.hid (show RR = .done s j by rw [HGF.out, goF_done (by rw [HP.out, HN.out, hend])])
          obtain ⟨t0, ht0⟩ : ∃ t, s.regs[0]? = some t := ⟨_, List.getElem?_eq_getElem (by omega)⟩
          obtain ⟨q0, c0, n0, -⟩ := hat.out.reg ht0
          have HN0 := Lib.hid n0
          have HG00 := Lib.hid (show getR s.regs 0 = t0 from getR_of (a := 0) ht0)
          have hpe : ((P : Int) == (k : Int)) = true := by rw [beq_iff_eq]; omega
          clear hend n0 ht0 h32
          go_wp2
          refine bodyPost_ret (v := .tuple #[.pointer q0, .int .i64 j, .int .i64 0, .int .i64 mo]) (by simp [results, Try.results86, go_sem]) rfl ?_
          rw [hfin.out]
          exact ⟨_, _, _, rfl, by show NodeP _ _ (getR s.regs 0) _; rw [HG00.out]; exact HN0.out, fun s2 j2 e => (by cases e; rfl), HBW.out⟩
        have hpe : ((P : Int) == (k : Int)) = false := by rw [beq_eq_false_iff_ne]; omega
        have hPL := Lib.hid (show s.pos ≠ l.length by rw [HP.out, HN.out]; exact hend)
        by_cases hfu : j = K
        · have hfin := Lib.hid (show RR = .fuel s j by rw [HGF.out, hfu, Nat.sub_self, goF_zero hPL.out])
          have hfe : ((j : Int) == (K : Int)) = true := by rw [beq_iff_eq]; omega
          clear hend hfu h32
          go_wp2
          refine bodyPost_ret (v := .tuple #[.pointer none, .int .i64 j, .int .i64 1, .int .i64 mo]) (by simp [results, Try.results86, go_sem]) rfl ?_
          rw [hfin.out]
          exact ⟨_, _, _, rfl, rfl, fun s2 j2 e => (by cases e), HBW.out⟩
        have hfe : ((j : Int) == (K : Int)) = false := by rw [beq_eq_false_iff_ne]; omega
        have hPlt : P < k := by omega
        obtain ⟨⟨op, xa, xb, xc, tree⟩, hy⟩ : ∃ s, l[P]? = some s := ⟨_, List.getElem?_eq_getElem (by rw [HN.out]; exact hPlt)⟩
        have hl2 := hlw.out.below HBW.out
        obtain ⟨pg, off, rfl, hpg, p0, p1, p2, p3, p4⟩ := hl2.get hy
        have hr := rightAll_get HV.out hy
        obtain ⟨ra, hra, ra32, hbc⟩ := right_nats hr
        have hopc := right_op hr
        have HY := Lib.hid hy
        have HR := Lib.hid hr
        have hi0 : (0 : Int) ≤ (P : Int) := Int.natCast_nonneg _
        have hi1 : (P : Int) < (k : Int) := by omega
        have hPI : (P : Int) ≤ 4000 := by omega
        simp only at hra hbc hopc p0 p1 p2 p3 p4
        subst hra
        have HBC := Lib.hid hbc
        clear hbc
        have hjK : j < K := by omega
        have ia0 : (0 : Int) ≤ (ra : Int) := Int.natCast_nonneg _
        have ia1 : (ra : Int) < 32 := by omega
        obtain ⟨ta, hta⟩ : ∃ t, s.regs[ra]? = some t := ⟨_, List.getElem?_eq_getElem (by omega)⟩
        have HTA := Lib.hid hta
        have KSTEP := Lib.hid (fun s' (h : stepX ⟨op, (ra : Nat), xb, xc, tree⟩ s = some s') => (show Reach l (startS t) (j + 1) ∧ stN l (startS t) (j + 1) = s' from KSUC.out s' hPL.out (by unfold stepP; rw [HP.out, HY.out]; exact h)))
        have KBIG := Lib.hid (fun (h : stepX ⟨op, (ra : Nat), xb, xc, tree⟩ s = none) => show RR = .big by
          rw [HGF.out, show K - j = (K - j - 1) + 1 by omega, goF_big hPL.out (by unfold stepP; rw [HP.out, HY.out]; exact h)])
        have hWB := Lib.hid ((Below.refl wr.heap.size wr).alloc (Nat.le_refl _) (.cells #[.int .i64 op, .int .i64 (ra : Nat), .int .i64 xb, .int .i64 xc, .string tree] 41))
        have FB := Lib.hid (hat.out.below hWB.out)
        obtain ⟨qa, ca, na, fa⟩ := FB.out.reg hta
        have HNA := Lib.hid na
        have KSA := Lib.hid (fun n => tsize_q HNA.out n)
        have hat0 := Lib.hid hat.out.b
        have hat1 := Lib.hid hgl
        clear hy hl2 hr hta hend hfu KSUC hat na hgl
        rcases hopc with hop | hop | hop | hop | hop | hop
        · subst hop
          obtain ⟨⟨qy, cy, hnY⟩, -⟩ := FB.out.cellK P hPlt
          have HNY := Lib.hid (hnY (toTr tree) (by rw [show setsK l k = l.map fun x => toTr x.tree from by rw [← HN.out]; exact setsK_all l, List.getElem?_map, HY.out]; rfl))
          have KSY := Lib.hid (fun n => tsize_q HNY.out n)
          have FBY := FB
          have HST := Lib.hid (KSTEP.out ⟨P + 1, s.regs.set ra (toTr tree)⟩ (by unfold stepX; rw [← HP.out, ← setR_of]; rfl))
          clear hnY HBC
          go_wp2
          go_quiet (first | (go_at_call 60; with_reducible refine Calls.quiet_of_same (KSY.out _)) | (go_at_call 60; with_reducible refine Calls.quiet_of_same (KSA.out _)))
          go_wp2
          all_goals
            go_roundg (K - (j + 1))
            case measure => rw [HGG.out]; omega
            case rel => exact ⟨j + 1, _, _, by omega, rfl, by rw [HST.out.2]; go_num, rfl, rfl, by go_num, HST.out.1, by rw [HST.out.2]; exact Lib.hid ((FBY.out.below (below_drewN (Below.refl _ _) _)).setReg (HNY.out.kept (Kept.below (below_drewN (Below.refl _ _) _))) _)⟩
        · subst hop
          obtain ⟨rb, rc, hb, hc, rb32, rc32⟩ := HBC.out (by decide)
          subst hb
          have ib0 : (0 : Int) ≤ (rb : Int) := Int.natCast_nonneg _
          have ib1 : (rb : Int) < 32 := by omega
          obtain ⟨tb, htb⟩ : ∃ t, s.regs[rb]? = some t := ⟨_, List.getElem?_eq_getElem (by omega)⟩
          obtain ⟨qb, cb, nb, fb⟩ := FB.out.reg htb
          have HNY := Lib.hid nb
          have KSY := Lib.hid (fun n => tsize_q HNY.out n)
          have FBY := FB
          have HST := Lib.hid (KSTEP.out ⟨P + 1, s.regs.set ra tb⟩ (by unfold stepX; rw [← HP.out, ← setR_of, ← getR_of htb]; rfl))
          clear HBC nb htb hc fb
          go_wp2
          go_quiet (first | (go_at_call 60; with_reducible refine Calls.quiet_of_same (KSY.out _)) | (go_at_call 60; with_reducible refine Calls.quiet_of_same (KSA.out _)))
          go_wp2
          all_goals
            go_roundg (K - (j + 1))
            case measure => rw [HGG.out]; omega
            case rel => exact ⟨j + 1, _, _, by omega, rfl, by rw [HST.out.2]; go_num, rfl, rfl, by go_num, HST.out.1, by rw [HST.out.2]; exact Lib.hid ((FBY.out.below (below_drewN (Below.refl _ _) _)).setReg (HNY.out.kept (Kept.below (below_drewN (Below.refl _ _) _))) _)⟩
        · subst hop
          obtain ⟨rb, rc, hb, hc, rb32, rc32⟩ := HBC.out (by decide)
          subst hb
          have ib0 : (0 : Int) ≤ (rb : Int) := Int.natCast_nonneg _
          have ib1 : (rb : Int) < 32 := by omega
          obtain ⟨tb, htb⟩ : ∃ t, s.regs[rb]? = some t := ⟨_, List.getElem?_eq_getElem (by omega)⟩
          obtain ⟨qb, cb, nb, fb⟩ := FB.out.reg htb
          subst hc
          have ic0 : (0 : Int) ≤ (rc : Int) := Int.natCast_nonneg _
          have ic1 : (rc : Int) < 32 := by omega
          obtain ⟨tc, htc⟩ : ∃ t, s.regs[rc]? = some t := ⟨_, List.getElem?_eq_getElem (by omega)⟩
          obtain ⟨qc, cc, nc, fc⟩ := FB.out.reg htc
          have HNB := Lib.hid nb
          have HNC := Lib.hid nc
          have hzbn := HGJ.out.2.2 _ (List.mem_of_getElem? htb)
          have hzcn := HGJ.out.2.2 _ (List.mem_of_getElem? htc)
          have KSB := Lib.hid (fun n => tsize_q HNB.out n)
          have KSC := Lib.hid (fun n => tsize_q HNC.out n)
          have hps := Lib.hid (show (Tr.pair tb tc).size = 1 + tb.size + tc.size from rfl)
          have KST2 := Lib.hid (fun (h : (Tr.pair tb tc).size ≤ 2000000) => KSTEP.out ⟨P + 1, s.regs.set ra (.pair tb tc)⟩ (by
            unfold stepX
            simp only [show ¬ (2 : Int) = 0 by decide, show ¬ (2 : Int) = 1 by decide, if_false, if_true]
            rw [getR_of htb, getR_of htc, if_pos h, setR_of, HP.out]))
          have KBG2 := Lib.hid (fun (h : ¬ (Tr.pair tb tc).size ≤ 2000000) => KBIG.out (by
            unfold stepX
            simp only [show ¬ (2 : Int) = 0 by decide, show ¬ (2 : Int) = 1 by decide, if_false, if_true]
            rw [getR_of htb, getR_of htc, if_neg h]))
          obtain ⟨zb, hzb⟩ : ∃ z, tb.size = z := ⟨_, rfl⟩
          obtain ⟨zc, hzc⟩ : ∃ z, tc.size = z := ⟨_, rfl⟩
          rw [hzb] at KSB hzbn hps
          rw [hzc] at KSC hzcn hps
          have HZB := Lib.hid hzb
          have HZC := Lib.hid hzc
          have hzbI : (zb : Int) ≤ 2000000 := by omega
          have hzcI : (zc : Int) ≤ 2000000 := by omega
          have hbox := Lib.hid (heap_alloc_new wr (.cells #[.int .i64 2, .int .i64 (ra : Nat), .int .i64 (rb : Nat), .int .i64 (rc : Nat), .string tree] 41))
          clear HBC nb nc htb htc fb fc hzb hzc hzbn hzcn KBIG KSTEP
          go_wp2
          go_quiet (first | (go_at_call 60; with_reducible refine Calls.quiet_of_same (KSB.out _)) | (go_at_call 60; with_reducible refine Calls.quiet_of_same (KSC.out _)))
          generalize hZ : (zb : Int) + (zc : Int) = Z
          have HZ := Lib.hid hZ
          clear hZ
          by_cases hbig : (2000000 : Int) ≤ Z
          · have hfin := Lib.hid (KBG2.out (by rw [hps.out]; have := HZ.out; omega))
            have hbW := Lib.hid (hat0.out.trans ((hWB.out.trans (below_drewN (Below.refl _ _) nq)).mono hat0.out.size))
            go_wp2
            refine bodyPost_ret (v := .tuple #[.pointer none, .int .i64 j, .int .i64 2, .int .i64 2000000]) (by simp [results, Try.results86, go_sem]) rfl ?_
            rw [hfin.out]
            exact ⟨_, _, _, rfl, rfl, fun s2 j2 e => (by cases e), hbW.out⟩
          · have HST := Lib.hid (KST2.out (by rw [hps.out]; have := HZ.out; omega))
            have hbd := below_drewN (Below.refl (wr.alloc (.cells #[.int .i64 2, .int .i64 (ra : Nat), .int .i64 (rb : Nat), .int .i64 (rc : Nat), .string tree] 41)).heap.size (wr.alloc (.cells #[.int .i64 2, .int .i64 (ra : Nat), .int .i64 (rb : Nat), .int .i64 (rc : Nat), .string tree] 41))) nq
            have hsB : (wr.alloc (.cells #[.int .i64 2, .int .i64 (ra : Nat), .int .i64 (rb : Nat), .int .i64 (rc : Nat), .string tree] 41)).heap.size = wr.heap.size + 1 := by simp
            have FB3 := Lib.hid (FB.out.below hbd)
            have hbox3 := Lib.hid ((hbd.block wr.heap.size (by omega)).trans hbox.out)
            have HNB3 := Lib.hid (HNB.out.kept (Kept.below hbd))
            have HNC3 := Lib.hid (HNC.out.kept (Kept.below hbd))
            have cb3 := (hbd.cell (p := ⟨w.heap.size, rb, none⟩) (by have := hat1.out; show w.heap.size < _; omega)).trans cb
            have cc3 := (hbd.cell (p := ⟨w.heap.size, rc, none⟩) (by have := hat1.out; show w.heap.size < _; omega)).trans cc
            clear ca cb cc fa KSA FB KSB KSC HNB HNC hbd hbox hsB KST2 KBG2
            go_wp2
            generalize (wr.alloc (.cells #[.int .i64 2, .int .i64 (ra : Nat), .int .i64 (rb : Nat), .int .i64 (rc : Nat), .string tree] 41)).drewN nq = W3 at *
            have hlt3 := Lib.hid (show wr.heap.size < W3.heap.size from (Array.getElem?_eq_some_iff.1 hbox3.out).1)
            have bx := (block_cells hbox3.out).1
            have K3 := Lib.hid (fun (w' : World) (hb : Below W3.heap.size W3 w') => (show w'.cell? ⟨wr.heap.size, 2, none⟩ = some (.int .i64 (rb : Nat)) ∧ w'.cell? ⟨wr.heap.size, 3, none⟩ = some (.int .i64 (rc : Nat)) ∧ w'.cell? ⟨w.heap.size, rb, none⟩ = some (.pointer qb) ∧ w'.cell? ⟨w.heap.size, rc, none⟩ = some (.pointer qc) from
              ⟨(hb.cell (p := ⟨wr.heap.size, 2, none⟩) hlt3.out).trans (bx 2), (hb.cell (p := ⟨wr.heap.size, 3, none⟩) hlt3.out).trans (bx 3), (hb.cell (p := ⟨w.heap.size, rb, none⟩) FB3.out.lt).trans cb3, (hb.cell (p := ⟨w.heap.size, rc, none⟩) FB3.out.lt).trans cc3⟩))
            have kp := Lib.hid (fun (w' : World) (hb : Below W3.heap.size W3 w') => (show Calls Try.prog 20 #[.pointer qb, .pointer qc] w' fun e w'' => ∃ p, e = .returned (.pointer (some p)) ∧ Hid (NodeP 102 w'' (.pair tb tc) (.pointer (some p))) ∧ Below W3.heap.size W3 w'' from
              (tpair_ok tb tc _ _ w' (HNB3.out.kept (Kept.below hb)) (HNC3.out.kept (Kept.below hb)) (by rw [HZB.out]; omega) (by rw [HZC.out]; omega)).mono fun e w'' ⟨p, h1, h2, h3⟩ => ⟨p, h1, Lib.hid h2, hb.trans (h3.mono hb.size)⟩))
            have bx2 := bx 2
            have bx3 := bx 3
            simp only [List.getElem?_toArray, List.getElem?_cons_zero, List.getElem?_cons_succ] at bx2 bx3
            clear bx
            go_region_held3 (fun w' => w'.cell? ⟨wr.heap.size, 2, none⟩ = some (.int .i64 (rb : Nat)) ∧ w'.cell? ⟨wr.heap.size, 3, none⟩ = some (.int .i64 (rc : Nat)) ∧ w'.cell? ⟨w.heap.size, rb, none⟩ = some (.pointer qb) ∧ w'.cell? ⟨w.heap.size, rc, none⟩ = some (.pointer qc))
              (exact K3.out _ (by first | exact Below.refl _ _ | exact (Below.refl _ _).drew | exact hb5 | exact hb5.drew))
              ((refine (kp.out _ (by first | exact Below.refl _ _ | exact (Below.refl _ _).drew)).mono ?_; rintro e w5 ⟨p5, rfl, hp5, hb5⟩))
            all_goals
              have FBY := Lib.hid (FB3.out.below hb5)
              have HNY := hp5
              have KSY := Lib.hid (fun n => tsize_q HNY.out n)
              have hbox5 := (hb5.block wr.heap.size hlt3.out).trans hbox3.out
              have b51 := (block_cells hbox5).1 1
              simp only [List.getElem?_toArray, List.getElem?_cons_zero, List.getElem?_cons_succ] at b51
              obtain ⟨qa5, ca5, na5, fa5⟩ := FBY.out.reg HTA.out
              have HNA5 := Lib.hid na5
              have KSA := Lib.hid (fun n => tsize_q HNA5.out n)
              clear K3 kp hbox5 na5 bx2 bx3 cb3 cc3 hb5 FB3
              go_wp2
              go_quiet (first | (go_at_call 60; with_reducible refine Calls.quiet_of_same (KSY.out _)) | (go_at_call 60; with_reducible refine Calls.quiet_of_same (KSA.out _)))
              go_wp2
              all_goals
                go_roundg (K - (j + 1))
                case measure => rw [HGG.out]; omega
                case rel => exact ⟨j + 1, _, _, by omega, rfl, by rw [HST.out.2]; go_num, rfl, rfl, by go_num, HST.out.1, by rw [HST.out.2]; exact Lib.hid ((FBY.out.below (below_drewN (Below.refl _ _) _)).setReg (HNY.out.kept (Kept.below (below_drewN (Below.refl _ _) _))) _)⟩
        · subst hop
          obtain ⟨rb, rc, hb, hc, rb32, rc32⟩ := HBC.out (by decide)
          subst hb
          have ib0 : (0 : Int) ≤ (rb : Int) := Int.natCast_nonneg _
          have ib1 : (rb : Int) < 32 := by omega
          obtain ⟨tb, htb⟩ : ∃ t, s.regs[rb]? = some t := ⟨_, List.getElem?_eq_getElem (by omega)⟩
          obtain ⟨qb, cb, nb, fb⟩ := FB.out.reg htb
          cases tb with
          | nil =>
            obtain rfl := node_nilT nb
            have HNY := Lib.hid (show NodeP 102 (wr.alloc (.cells #[.int .i64 3, .int .i64 (ra : Nat), .int .i64 (rb : Nat), .int .i64 xc, .string tree] 41)) .nil (.pointer none) from rfl)
            have KSY := Lib.hid (fun n => tsize_q HNY.out n)
            have FBY := FB
            have HST := Lib.hid (KSTEP.out ⟨P + 1, s.regs.set ra .nil⟩ (by unfold stepX; rw [← HP.out, ← setR_of, getR_of htb]; rfl))
            clear HBC nb htb hc fb
            go_wp2
            go_quiet (first | (go_at_call 60; with_reducible refine Calls.quiet_of_same (KSY.out _)) | (go_at_call 60; with_reducible refine Calls.quiet_of_same (KSA.out _)))
            go_wp2
            all_goals
              go_roundg (K - (j + 1))
              case measure => rw [HGG.out]; omega
              case rel => exact ⟨j + 1, _, _, by omega, rfl, by rw [HST.out.2]; go_num, rfl, rfl, by go_num, HST.out.1, by rw [HST.out.2]; exact Lib.hid ((FBY.out.below (below_drewN (Below.refl _ _) _)).setReg (HNY.out.kept (Kept.below (below_drewN (Below.refl _ _) _))) _)⟩
          | pair t1 t2 =>
            obtain ⟨g3, x3, y3, hqe, -, d0, d1, -, n1, n2⟩ := nb.cells
            injection hqe with hqe
            subst hqe
            have HNY := Lib.hid n1
            have KSY := Lib.hid (fun n => tsize_q HNY.out n)
            have FBY := FB
            have HST := Lib.hid (KSTEP.out ⟨P + 1, s.regs.set ra t1⟩ (by unfold stepX; rw [← HP.out, ← setR_of, getR_of htb]; rfl))
            clear HBC nb htb hc fb n1 n2
            go_wp2
            go_quiet (first | (go_at_call 60; with_reducible refine Calls.quiet_of_same (KSY.out _)) | (go_at_call 60; with_reducible refine Calls.quiet_of_same (KSA.out _)))
            go_wp2
            all_goals
              go_roundg (K - (j + 1))
              case measure => rw [HGG.out]; omega
              case rel => exact ⟨j + 1, _, _, by omega, rfl, by rw [HST.out.2]; go_num, rfl, rfl, by go_num, HST.out.1, by rw [HST.out.2]; exact Lib.hid ((FBY.out.below (below_drewN (Below.refl _ _) _)).setReg (HNY.out.kept (Kept.below (below_drewN (Below.refl _ _) _))) _)⟩
        · subst hop
          obtain ⟨rb, rc, hb, hc, rb32, rc32⟩ := HBC.out (by decide)
          subst hb
          have ib0 : (0 : Int) ≤ (rb : Int) := Int.natCast_nonneg _
          have ib1 : (rb : Int) < 32 := by omega
          obtain ⟨tb, htb⟩ : ∃ t, s.regs[rb]? = some t := ⟨_, List.getElem?_eq_getElem (by omega)⟩
          obtain ⟨qb, cb, nb, fb⟩ := FB.out.reg htb
          cases tb with
          | nil =>
            obtain rfl := node_nilT nb
            have HNY := Lib.hid (show NodeP 102 (wr.alloc (.cells #[.int .i64 4, .int .i64 (ra : Nat), .int .i64 (rb : Nat), .int .i64 xc, .string tree] 41)) .nil (.pointer none) from rfl)
            have KSY := Lib.hid (fun n => tsize_q HNY.out n)
            have FBY := FB
            have HST := Lib.hid (KSTEP.out ⟨P + 1, s.regs.set ra .nil⟩ (by unfold stepX; rw [← HP.out, ← setR_of, getR_of htb]; rfl))
            clear HBC nb htb hc fb
            go_wp2
            go_quiet (first | (go_at_call 60; with_reducible refine Calls.quiet_of_same (KSY.out _)) | (go_at_call 60; with_reducible refine Calls.quiet_of_same (KSA.out _)))
            go_wp2
            all_goals
              go_roundg (K - (j + 1))
              case measure => rw [HGG.out]; omega
              case rel => exact ⟨j + 1, _, _, by omega, rfl, by rw [HST.out.2]; go_num, rfl, rfl, by go_num, HST.out.1, by rw [HST.out.2]; exact Lib.hid ((FBY.out.below (below_drewN (Below.refl _ _) _)).setReg (HNY.out.kept (Kept.below (below_drewN (Below.refl _ _) _))) _)⟩
          | pair t1 t2 =>
            obtain ⟨g3, x3, y3, hqe, -, d0, d1, -, n1, n2⟩ := nb.cells
            injection hqe with hqe
            subst hqe
            have HNY := Lib.hid n2
            have KSY := Lib.hid (fun n => tsize_q HNY.out n)
            have FBY := FB
            have HST := Lib.hid (KSTEP.out ⟨P + 1, s.regs.set ra t2⟩ (by unfold stepX; rw [← HP.out, ← setR_of, getR_of htb]; rfl))
            clear HBC nb htb hc fb n1 n2
            go_wp2
            go_quiet (first | (go_at_call 60; with_reducible refine Calls.quiet_of_same (KSY.out _)) | (go_at_call 60; with_reducible refine Calls.quiet_of_same (KSA.out _)))
            go_wp2
            all_goals
              go_roundg (K - (j + 1))
              case measure => rw [HGG.out]; omega
              case rel => exact ⟨j + 1, _, _, by omega, rfl, by rw [HST.out.2]; go_num, rfl, rfl, by go_num, HST.out.1, by rw [HST.out.2]; exact Lib.hid ((FBY.out.below (below_drewN (Below.refl _ _) _)).setReg (HNY.out.kept (Kept.below (below_drewN (Below.refl _ _) _))) _)⟩
        · subst hop
          have hjb := right_jump HR.out rfl
          have hjb1 : -(P : Int) ≤ xb ∧ xb ≤ (k : Int) - P := by have h := hjb; rw [HN.out] at h; exact h
          cases ta with
          | nil =>
            obtain rfl := node_nilT HNA.out
            have HNY := HNA
            have KSY := KSA
            have FBY := FB
            have HST := Lib.hid (KSTEP.out ⟨P + 1, s.regs.set ra .nil⟩ (by rw [jump_same HTA.out]; unfold stepX; rw [← HP.out, getR_of HTA.out]; rfl))
            clear HBC hjb
            go_wp2
            go_quiet (first | (go_at_call 60; with_reducible refine Calls.quiet_of_same (KSY.out _)) | (go_at_call 60; with_reducible refine Calls.quiet_of_same (KSA.out _)))
            go_wp2
            all_goals
              go_roundg (K - (j + 1))
              case measure => rw [HGG.out]; omega
              case rel => exact ⟨j + 1, _, _, by omega, rfl, by rw [HST.out.2]; first | go_num | (congr 1; show _ = ((((P : Int) + xb).toNat : Nat) : Int); omega), rfl, rfl, by go_num, HST.out.1, by rw [HST.out.2]; exact Lib.hid ((FBY.out.below (below_drewN (Below.refl _ _) _)).setReg (HNY.out.kept (Kept.below (below_drewN (Below.refl _ _) _))) _)⟩
          | pair t1 t2 =>
            obtain ⟨g3, x3, y3, hqe, -, d0, d1, -, -, -⟩ := HNA.out.cells
            injection hqe with hqe
            subst hqe
            have HNY := HNA
            have KSY := KSA
            have FBY := FB
            have HST := Lib.hid (KSTEP.out ⟨((P : Int) + xb).toNat, s.regs.set ra (.pair t1 t2)⟩ (by rw [jump_same HTA.out]; unfold stepX; rw [← HP.out, getR_of HTA.out]; rfl))
            clear HBC hjb d0 d1
            go_wp2
            go_quiet (first | (go_at_call 60; with_reducible refine Calls.quiet_of_same (KSY.out _)) | (go_at_call 60; with_reducible refine Calls.quiet_of_same (KSA.out _)))
            go_wp2
            all_goals
              go_roundg (K - (j + 1))
              case measure => rw [HGG.out]; omega
              case rel => exact ⟨j + 1, _, _, by omega, rfl, by rw [HST.out.2]; first | go_num | (congr 1; show _ = ((((P : Int) + xb).toNat : Nat) : Int); omega), rfl, rfl, by go_num, HST.out.1, by rw [HST.out.2]; exact Lib.hid ((FBY.out.below (below_drewN (Below.refl _ _) _)).setReg (HNY.out.kept (Kept.below (below_drewN (Below.refl _ _) _))) _)⟩
end Go.Proofs.Ytlaeljkjdfffjaa

namespace Go.Proofs.Ytlaeljkjdfffjaa
open Go.RowKit

def tailI : Ins := ⟨4, 0, 0, 0, ⟨#[]⟩⟩
theorem tailI_wf : tailI.wf := wf_lit _ _ _ _ _ (by unfold i64; decide) (by unfold i64; decide) (by unfold i64; decide) (by unfold i64; decide) (by decide)
end Go.Proofs.Ytlaeljkjdfffjaa

namespace Go.Proofs.Ytlaeljkjdfffjaa
open Go.RowKit

theorem el_progs : ElemT Try.prog 146 23 (.slice none 0 0) 1 24 := ⟨Try.underlying146, by kernel_rfl, rfl, by decide⟩

set_option maxHeartbeats 1000000 in
theorem twin_own (v : Value) (l : List Ins) (w : World) (hl : InsRow w w.heap.size v l) :
    Calls Try.prog 24 #[v] w fun e w' => ∃ a c, e = .returned (.slice a l.length c) ∧ OwnI w' w.heap.size (.slice a l.length c) l ∧ Below w.heap.size w w' := by
  have hn := hl.2.1
  have hwf := hl.1
  have hs := hl.src
  obtain ⟨n, hn'⟩ : ∃ n, l.length = n := ⟨_, rfl⟩
  rw [hn'] at hn hs
  have HN := Lib.hid hn'; clear hn'
  have HW := Lib.hid hwf; clear hwf
  obtain ⟨ao, cap, rfl⟩ := hl.len
  rw [HN.out] at hl hs ⊢
  have hown : (w.alloc (.cells #[] 41)).ownsRow w.heap.size 41 5 (.slice (some ⟨w.heap.size, 0, none⟩) 0 0) 0 [] := World.ownsRow_lit w #[] 0 (Nat.le_refl _) (by decide) rfl
  have hs2 : Src (w.alloc (.cells #[] 41)) (.slice ao n cap) n 5 (inscells l) := by
    have := (hl.below ((Below.refl _ w).alloc (Nat.le_refl _) (.cells #[] 41))).src
    rwa [HN.out] at this
  have hb : Below w.heap.size w (w.alloc (.cells #[] 41)) := (Below.refl _ _).alloc (Nat.le_refl _) _
  go_enter Try.func24, Try.ntmps24
  go_wp2_with (at_builtin; refine app_src el_ins (vx := .slice ao n cap) rfl _ _ rfl rfl hown rfl hs2 (inscells_one l) ?c2 ?c3 (by simp) hb (Nat.le_refl _) ?_)
  case c2 => omega
  case c3 => unfold maxLen; omega
  intro v' w' hown' hb' hg
  have hown2 : OwnI w' w.heap.size v' l := ⟨by rw [HN.out]; simpa using hown', HW.out⟩
  obtain ⟨a2, c2, rfl⟩ := own_len hown'
  clear hown hs hs2 hb hown' hg
  go_wp2
  refine bodyPost_ret (v := .slice a2 n c2) (by simp [results, Try.results24, go_sem]) rfl ?_
  exact ⟨_, _, rfl, hown2, hb'⟩

/-- A row of one's own of programs, each in a block besides. -/
def OwnP (w : World) (B : Nat) (v : Value) (ls : List (List Ins)) : Prop :=
  ∃ us, w.ownsRow B 23 1 v ls.length us ∧ ∀ (j : Nat) (u : Value) (l : List Ins), us[j]? = some u → ls[j]? = some l → InsRow w w.heap.size u l ∧ ∀ g, u.ownBlock = some g → g < w.heap.size ∧ v.ownBlock ≠ some g
theorem OwnP.nil (w : World) (B : Nat) : OwnP w B (.slice none 0 0) [] := ⟨[], World.ownsRow_nil _ _ _ _, fun j u l h => by simp at h⟩
theorem OwnP.lt {w : World} {B : Nat} {v : Value} {ls : List (List Ins)} (h : OwnP w B v ls) {g : Nat} (hg : v.ownBlock = some g) : B ≤ g ∧ g < w.heap.size := by
  obtain ⟨us, h1, _⟩ := h
  rcases h1.2 with ⟨rfl, _⟩ | ⟨k, cap, cur, rfl, hb, hc, _⟩
  · simp [Value.ownBlock] at hg
  · simp only [Value.ownBlock, Option.some.injEq] at hg; subst hg; exact ⟨hb, (Array.getElem?_eq_some_iff.1 hc).1⟩
theorem OwnP.below {w w' : World} {B : Nat} {v : Value} {ls : List (List Ins)} (h : OwnP w B v ls) (hb : Below w.heap.size w w') : OwnP w' B v ls := by
  obtain ⟨us, h1, h2⟩ := h
  refine ⟨us, own_below h1 hb, fun j u l hu hl => ?_⟩
  obtain ⟨h3, h4⟩ := h2 j u l hu hl
  exact ⟨(h3.below hb).mono hb.size, fun g hg => ⟨Nat.lt_of_lt_of_le (h4 g hg).1 hb.size, (h4 g hg).2⟩⟩
theorem OwnP.len {w : World} {B : Nat} {v : Value} {ls : List (List Ins)} (h : OwnP w B v ls) : ∃ a c, v = .slice a ls.length c := by
  obtain ⟨us, h1, _⟩ := h; exact own_len h1
theorem OwnP.row {w : World} {B : Nat} {v : Value} {ls : List (List Ins)} (h : OwnP w B v ls) (hn : ls.length ≤ 5864062014805) : ProgsRow w w.heap.size v ls := by
  obtain ⟨us, h1, h2⟩ := h
  have hlen : us.length = ls.length := by have := h1.1; omega
  refine ⟨hn, ?_⟩
  rcases h1.2 with ⟨rfl, h0⟩ | ⟨g, cap, cur, rfl, hb, hg, hnc, hcm, hcs, htake⟩
  · exact .inl ⟨List.length_eq_zero_iff.1 h0, .inl rfl⟩
  · refine .inr ⟨g, 0, cap, rfl, (Array.getElem?_eq_some_iff.1 hg).1, fun j l hl => ?_⟩
    have hlt := (List.getElem?_eq_some_iff.1 hl).1
    obtain ⟨u, hu⟩ : ∃ u, us[j]? = some u := ⟨_, List.getElem?_eq_getElem (by omega)⟩
    refine ⟨u, ?_, (h2 j u l hu hl).1⟩
    rw [Nat.zero_add, World.ownsRow.cellAt h1 j (by omega), hu]
theorem OwnI.block {w : World} {B : Nat} {v : Value} {l : List Ins} (h : OwnI w B v l) {g : Nat} (hg : v.ownBlock = some g) : B ≤ g ∧ g < w.heap.size := by
  rcases h.own.2 with ⟨rfl, _⟩ | ⟨k, cap, cur, rfl, hb, hc, _⟩
  · simp [Value.ownBlock] at hg
  · simp only [Value.ownBlock, Option.some.injEq] at hg; subst hg; exact ⟨hb, (Array.getElem?_eq_some_iff.1 hc).1⟩
theorem InsRow.far {w w' : World} {vx : Value} {l : List Ins} (h : InsRow w w.heap.size vx l) (hs : w.heap.size ≤ w'.heap.size) (hold : ∀ g, vx.ownBlock = some g → g < w.heap.size → w'.heap[g]? = w.heap[g]?) : InsRow w' w'.heap.size vx l := by
  refine ⟨h.1, h.2.1, ?_⟩
  rcases h.2.2 with h3 | ⟨g, off, cap, rfl, hgl, hc⟩
  · exact .inl h3
  · exact .inr ⟨g, off, cap, rfl, by omega, fun j x hj k u hk => (World.cell?_of_block (hold g rfl hgl)).trans (hc j x hj k u hk)⟩

/-- append of a program to such a row. -/
theorem app_prog {ops : Array Oper} {rest : List Oper} {o : Oper} {a : Act} {Q : Exit → Act → World → Prop} (hgd : o.guard = none) (s x : Operand)
    (ho : o.op = .call { callee := .builtin .append, args := #[s, x], argTypes := #[146, 146] }) {w w0 : World} {v u : Value} {ls : List (List Ins)} {l : List Ins}
    (hs : a.eval s = v) (hown : OwnP w w0.heap.size v ls) (hx : a.eval x = .slice (some ⟨w.heap.size, 0, none⟩) 1 1) (hu : InsRow w w.heap.size u l) (hu1 : u.oneCell' = true) (hue : ∀ g, u.ownBlock = some g → g < w.heap.size ∧ v.ownBlock ≠ some g) (hlen : ls.length + 1 ≤ 5864062014805) (hb : Below w0.heap.size w0 w)
    (h : ∀ a' k c' w', Hid (k = ls.length + 1) → Hid (OwnP w' w0.heap.size (.slice a' k c') (ls ++ [l])) → Hid (Below w0.heap.size w0 w') → wpList Try.prog ops Q rest (a.put o.dst (.slice a' k c')) w') :
    wpList Try.prog ops Q (o :: rest) a (w.alloc (.cells #[u] 23)) := by
  have hlt := fun (g : Nat) (hg : v.ownBlock = some g) => hown.lt hg
  obtain ⟨us, h1, h2⟩ := hown
  have hus : us.length = ls.length := by have := h1.1; omega
  obtain ⟨i, hi, hz, hsize, hbytes⟩ := info_parts el_progs.hi
  refine wpList_append_lies _ hgd s x _ ho w0.heap.size _ i _ 1 24 el_progs.ht hi hz hsize hbytes el_progs.hzs el_progs.hsz v ls.length us hs (h1.alloc _) ⟨w.heap.size, 0, none⟩ 1 1 [u] hx rfl ?_ ?_ (by decide) (by unfold maxLen; omega) (by omega) (by have := hb.size; simp; omega) (w.heap.size + 1) (by simp) ?_
  · intro j y hy
    rw [Addr.add_lit]
    unfold World.cell?
    rw [heap_alloc_new w _]
    simpa using hy
  · intro y hy; rw [List.mem_singleton.1 hy]; exact hu1
  · intro g cap w' ho' hg hblk hgl
    have hsz : w.heap.size < w'.heap.size := (grownBy_alloc_trans hg).1
    have hold := (grownBy_alloc_trans hg).2
    refine h _ _ _ w' (Lib.hid rfl) (Lib.hid ⟨us ++ [u], by rw [List.length_append]; exact ho', ?_⟩) (Lib.hid ((hb.alloc hb.size _).grown hg (by have := hb.size; simp; omega) (fun k hk => (hlt _ hk).1)))
    have hnew : ∀ (y : Value) (m : List Ins), InsRow w w.heap.size y m → (∀ g', y.ownBlock = some g' → g' < w.heap.size ∧ v.ownBlock ≠ some g') → InsRow w' w'.heap.size y m ∧ ∀ g', y.ownBlock = some g' → g' < w'.heap.size ∧ Value.ownBlock (.slice (some ⟨g, 0, none⟩) (ls.length + 1) cap) ≠ some g' := by
      intro y m hy hye
      refine ⟨hy.far (by omega) fun g' hg' hgl' => hold g' hgl' (fun e => (hye g' hg').2 e.symm), fun g' hg' => ⟨by have := (hye g' hg').1; omega, fun e => ?_⟩⟩
      simp only [Value.ownBlock, Option.some.injEq] at e
      subst e
      rcases hblk with h3 | h3
      · exact (hye g hg').2 h3
      · have := (hye g hg').1; omega
    intro j y m hy hm
    rw [List.getElem?_append] at hy hm
    by_cases hj : j < ls.length
    · rw [if_pos (by omega)] at hy
      rw [if_pos hj] at hm
      exact hnew y m (h2 j y m hy hm).1 (h2 j y m hy hm).2
    · rw [if_neg (by omega)] at hy
      rw [if_neg hj] at hm
      have hy1 := List.mem_singleton.1 (List.mem_of_getElem? hy)
      have hm1 := List.mem_singleton.1 (List.mem_of_getElem? hm)
      subst hy1; subst hm1
      exact hnew y m hu hue

end Go.Proofs.Ytlaeljkjdfffjaa

namespace Go.Proofs.Ytlaeljkjdfffjaa
open Go.RowKit

theorem mostR_ge {ls : List (List Ins)} {k : Nat} {l : List Ins} (hl : ls[k]? = some l) : regN l ≤ mostR ls := by
  unfold mostR
  have hm : regN l ∈ ls.map regN := List.mem_map.2 ⟨l, List.mem_of_getElem? hl, rfl⟩
  revert hm
  generalize ls.map regN = m
  intro hm
  induction m with
  | nil => cases hm
  | cons a m ih =>
    simp only [List.foldr_cons]
    rcases List.mem_cons.1 hm with h | h
    · omega
    · have := ih h; omega

end Go.Proofs.Ytlaeljkjdfffjaa

namespace Go.Proofs.Ytlaeljkjdfffjaa
open Go.RowKit

theorem app_str {P : Program} {tS tE tu : Nat} (E : ElemT P tS tE (.int .u8 0) 1 1) (hu : P.underlying tu = some .string) {ops : Array Oper} {rest : List Oper} {o : Oper} {a : Act} {Q : Exit → Act → World → Prop}
    (hgd : o.guard = none) (sl x : Operand) (ho : o.op = .call { callee := .builtin .append, args := #[sl, x], argTypes := #[tS, tu] }) {w : World} {base : Nat} {v : Value} {n : Nat} {xs : List Value}
    (hs : a.eval sl = v) (hown : w.ownsRow base tE 1 v n xs) (s : ByteArray) (hx : a.eval x = .string s) (hby : n + s.size ≤ 140737488355328) (hbase : base ≤ w.heap.size) {B : Nat} {w0 : World} (hb : Below B w0 w) (hB : B ≤ base)
    (h : ∀ v' w', w'.ownsRow base tE 1 v' (n + s.size) (xs ++ Lib.strCells s) → Below B w0 w' → wpList P ops Q rest (a.put o.dst v') w') :
    wpList P ops Q (o :: rest) a w := by
  obtain ⟨i, hi, hz, hsize, hbytes⟩ := info_parts E.hi
  have hlt := hown.lt
  obtain ⟨v', w', hr, h2, h3, _⟩ := Lib.run_append_own_string (P := P) w base tS tu o.type tE i E.ht hu hi hz hsize hbytes v n xs hown s (by unfold maxLen; omega) hby hbase
  refine wpList_plain hgd fun K hK' => ?_
  unfold Oper.wp execOp
  simp only [ho, resolve, invoke, builtin, Sem.run_bind, Sem.run_pure, Result.andThen_ok, List.map_toArray, List.map_cons, List.map_nil, hs, hx, hr]
  exact hK' _ _ (h v' w' h2 (hb.grown h3 (by omega) (fun k hk => by have := (hlt k hk).1; omega)))

/-- Strings, with a semicolon and a blank between. -/
def jn : List (List UInt8) → List UInt8
  | [] => []
  | t :: ts => t ++ (ts.map fun t => [59, 32] ++ t).flatten
theorem jn_succ (T : List (List UInt8)) (k : Nat) {t : List UInt8} (ht : T[k]? = some t) : jn (T.take (k + 1)) = jn (T.take k) ++ (if k = 0 then [] else [59, 32]) ++ t := by
  rw [take_snoc' _ _ _ ht]
  cases k with
  | zero => simp [jn]
  | succ k =>
    cases T with
    | nil => simp at ht
    | cons a T => simp [jn]
theorem jn_mono (T : List (List UInt8)) (k : Nat) : (jn (T.take k)).length ≤ (jn T).length := by
  cases T with
  | nil => simp
  | cons a T =>
    cases k with
    | zero => simp [jn]
    | succ k =>
      have h : ((T.map fun t => [59, 32] ++ t).flatten : List UInt8) = ((T.take k).map fun t => [59, 32] ++ t).flatten ++ ((T.drop k).map fun t => [59, 32] ++ t).flatten := by
        rw [← List.flatten_append, ← List.map_append, List.take_append_drop]
      simp only [jn, List.take_succ_cons, List.length_append]
      rw [h, List.length_append]; omega

def nameL : List ByteArray := [⟨#[115, 101, 116]⟩, ⟨#[109, 111, 118, 101]⟩, ⟨#[99, 111, 110, 115]⟩, ⟨#[104, 101, 97, 100]⟩, ⟨#[116, 97, 105, 108]⟩, ⟨#[106, 117, 109, 112]⟩]
end Go.Proofs.Ytlaeljkjdfffjaa

namespace Go.Proofs.Ytlaeljkjdfffjaa
open Go.RowKit


def txL : List (List UInt8) := [[109, 111, 118, 101, 32, 49, 32, 48], [109, 111, 118, 101, 32, 50, 32, 48], [109, 111, 118, 101, 32, 48, 32, 49], [99, 111, 110, 115, 32, 48, 32, 50, 32, 48]]
end Go.Proofs.Ytlaeljkjdfffjaa

namespace Go.Proofs.Ytlaeljkjdfffjaa
open Go.RowKit

/-- A program that was made, where an error may be due. -/
def TB (w : World) (B : Nat) (d : Int) (m : List Ins) (v : Value) : Prop := (d = 0 → InsRow w B v m) ∧ (d ≠ 0 → v = .slice none 0 0)
theorem TB.below {w w' : World} {B : Nat} {d : Int} {m : List Ins} {v : Value} (h : TB w B d m v) (hb : Below B w w') : TB w' B d m v := ⟨fun e => (h.1 e).below hb, h.2⟩
theorem TB.mono {w : World} {B B' : Nat} {d : Int} {m : List Ins} {v : Value} (h : TB w B d m v) (hB : B ≤ B') : TB w B' d m v := ⟨fun e => (h.1 e).mono hB, h.2⟩
theorem made_tb {f : Nat} {args : Array Value} {w : World} {d : Int} {m : List Ins} (h : Calls Try.prog f args w (MadeOut w d m)) : Calls Try.prog f args w fun e w' => ∃ v, e = .returned (.tuple #[v, .int .i64 d]) ∧ TB w' w'.heap.size d m v ∧ Below w.heap.size w w' := by
  refine h.mono ?_
  rintro e w' ⟨h1, h2⟩
  by_cases hd : d = 0
  · rw [if_pos hd] at h1
    obtain ⟨v, rfl, h3⟩ := h1
    exact ⟨v, by rw [hd], ⟨fun _ => h3, fun e => absurd hd e⟩, h2⟩
  · rw [if_neg hd] at h1
    exact ⟨_, h1, ⟨fun e => absurd e hd, fun _ => rfl⟩, h2⟩
theorem made_ok {f : Nat} {args : Array Value} {w : World} {ls : List (List Ins)} {m : List Ins} (hd : dueN ls m = 0) (h : Calls Try.prog f args w (MadeOut w (dueN ls m) m)) : Calls Try.prog f args w fun e w' => ∃ v, e = .returned (.tuple #[v, .int .i64 0]) ∧ InsRow w' w'.heap.size v m ∧ Below w.heap.size w w' := by
  rw [hd] at h
  refine (made_tb h).mono ?_
  rintro e w' ⟨v, rfl, h1, h2⟩
  exact ⟨v, rfl, h1.1 rfl, h2⟩
theorem row_nil (w : World) (B : Nat) : InsRow w B (.slice none 0 0) [] := ⟨by simp, by simp, .inl ⟨rfl, .inl rfl⟩⟩
theorem thenDue : dueN [[tailI], [tailI]] (thenL [[tailI], [tailI]]) = 0 := by decide +kernel
theorem pairDue : dueN [[], []] (pairL [] []) = 0 := by decide +kernel
theorem whileDue : dueN [[], [tailI]] (whileL [] [tailI]) = 0 := by decide +kernel
def trL (n : Nat) : Tr := match n with | 0 => .nil | n + 1 => .pair .nil (trL n)
theorem runThen : (goF (thenL [[tailI], [tailI]]) 2000 0 (startS (trL 2))).run = (⟨#[48]⟩, 2, 0) := by decide +kernel
theorem runPair : (goF (pairL [] []) 2000 0 (startS (trL 0))).run = (⟨#[49, 48, 48]⟩, 4, 0) := by decide +kernel
theorem runWhile : (goF (whileL [] [tailI]) 2000 0 (startS (trL 3))).run = (⟨#[48]⟩, 23, 0) := by decide +kernel

end Go.Proofs.Ytlaeljkjdfffjaa

namespace Go.Proofs.Ytlaeljkjdfffjaa
open Go.RowKit

theorem isF_below {T e : TypeId} {B b : Nat} {bs : List Value} {w w' : World} (h : Lib.IsBuilderF T e B b bs w) (hb : Below w.heap.size w w') : Lib.IsBuilderF T e B b bs w' := by
  have own : ∀ {v : Value} {n : Nat} {xs : List Value}, w.ownsRowF B e 1 v n xs → w'.ownsRowF B e 1 v n xs := fun h => by
    refine ⟨h.1, ?_⟩
    rcases h.2 with hn | ⟨g, cap, cur, fz, hv, hbg, hg, rest⟩
    · exact .inl hn
    · exact .inr ⟨g, cap, cur, fz, hv, hbg, (hb.block g (Array.getElem?_eq_some_iff.1 hg).1).trans hg, rest⟩
  rcases h with ⟨h1, v, h2, h3, h4⟩ | ⟨h1, v, h2, h3, h4⟩
  · exact .inl ⟨h1, v, (hb.block b (Array.getElem?_eq_some_iff.1 h2).1).trans h2, own h3, h4⟩
  · exact .inr ⟨h1, v, (hb.block b (Array.getElem?_eq_some_iff.1 h2).1).trans h2, own h3, h4⟩
theorem isF_lt {T e : TypeId} {B b : Nat} {bs : List Value} {w : World} (h : Lib.IsBuilderF T e B b bs w) : b < w.heap.size := by
  rcases h with ⟨_, v, h2, _⟩ | ⟨_, v, h2, _⟩ <;> exact (Array.getElem?_eq_some_iff.1 h2).1
theorem field0 (f g : Value) (w : World) : (Instr.field 134 (.agg #[f, g]) 0).run Try.prog w = .ok f w := by
  simp [Instr.field, go_sem, part, asAgg]
theorem wstr_k (b : Nat) (bs : List Value) (s : ByteArray) (w : World) (h : Lib.IsBuilderF 127 5 b b bs w) (hlen : bs.length + s.size ≤ 140737488355328) :
    Calls Try.prog 103 #[.pointer (some ⟨b, 0, none⟩), .string s] w fun e w' => e = .returned (.tuple #[.int .i64 s.size, .nilIface]) ∧ Lib.IsBuilderF 127 5 b b (bs ++ Lib.strCells s) w' ∧ Below b w w' ∧ Lib.OthersKept 5 (some b) w w' :=
  (Any.Builder_WriteString_k Try.lays166 Try.Builder_Extra_166 b b bs s w h hlen (Nat.le_of_lt (isF_lt h))).mono fun _e _w' h => ⟨h.1, .inr h.2.1, h.2.2⟩
theorem wbyte_k (b : Nat) (bs : List Value) (c : Int) (w : World) (h : Lib.IsBuilderF 127 5 b b bs w) (hlen : bs.length + 1 ≤ 140737488355328) :
    Calls Try.prog 106 #[.pointer (some ⟨b, 0, none⟩), .int .u8 c] w fun e w' => e = .returned .nilIface ∧ Lib.IsBuilderF 127 5 b b (bs ++ [.int .u8 c]) w' ∧ Below b w w' ∧ Lib.OthersKept 5 (some b) w w' :=
  (Any.Builder_WriteByte_k Try.lays167 Try.Builder_Extra_167 b b bs c w h hlen (Nat.le_of_lt (isF_lt h))).mono fun _e _w' h => ⟨h.1, .inr h.2.1, h.2.2⟩
/-- What code.Code hands back. -/
def CodeOut (l : List Ins) : Value := if validB l = false then .tuple #[.string ⟨#[]⟩, .int .i64 1] else if 2000000 < (codeLs l).length + 1 then .tuple #[.string ⟨#[]⟩, .int .i64 3] else .tuple #[.string (codeOf l), .int .i64 0]
theorem ciL_size {x : Ins} (m : Nat) (hm : x.op = m) (hm5 : m ≤ 5) (hb : (bodyB x).size ≤ 4000000) : (ciL x).length ≤ 4000020 := by
  unfold ciL
  have h1 : (⟨#[49, 49]⟩ ++ TS (.num x.op.toNat) : ByteArray).size = 2 + (2 * m + 1) := by rw [ByteArray.size_append, num_size, hm]; rfl
  have h2 : ∀ s : ByteArray, s.data.toList.length = s.size := fun s => by simp
  rw [List.length_append, h2, h2, h1]; omega
theorem codeLs_bound (l : List Ins) (hv : validB l = true) : (codeLs l).length ≤ 4000020 * 4000 := by
  have hl := validB_len hv
  have hx : ∀ x ∈ l, (ciL x).length ≤ 4000020 := by
    intro x hx
    obtain ⟨k, hk, rfl⟩ := List.getElem_of_mem hx
    obtain ⟨PF, _, _, _, h3, m, h4, h5⟩ := fields_put (rightAll_get (validB_all hv) (List.getElem?_eq_getElem hk)) ⟨Int.natCast_nonneg _, by omega, by omega⟩
    exact ciL_size m h4 h5 h3
  have : ∀ k : List Ins, (∀ x ∈ k, (ciL x).length ≤ 4000020) → (codeLs k).length ≤ 4000020 * k.length := by
    intro k
    induction k with
    | nil => intro _; simp [codeLs]
    | cons x k ih =>
      intro h
      have h1 := ih fun y hy => h y (List.mem_cons_of_mem _ hy)
      have h2 := h x (List.mem_cons_self)
      have h3 : codeLs (x :: k) = ciL x ++ codeLs k := by simp [codeLs]
      rw [h3, List.length_append, List.length_cons]; omega
  exact Nat.le_trans (this l hx) (Nat.mul_le_mul_left _ hl)

set_option maxRecDepth 20000 in
theorem code_bad (v : Value) (l : List Ins) (w : World) (hl : InsRow w w.heap.size v l) (hv : validB l = false) :
    Calls Try.prog 43 #[v] w fun e w' => e = .returned (.tuple #[.string ⟨#[]⟩, .int .i64 1]) ∧ Below w.heap.size w w' := by
  have kv := codeValidP_at _ l w hl _ hv
  go_enter Try.func43, Try.ntmps43
  go_wp2_with fail
  refine kv.mono ?_
  rintro e w1 ⟨rfl, hb1⟩
  go_wp2
  go_ret2
  exact ⟨rfl, hb1⟩

set_option maxRecDepth 20000 in
set_option maxHeartbeats 8000000 in
theorem code_ok (v : Value) (l : List Ins) (w : World) (hl : InsRow w w.heap.size v l) (hv : validB l = true) :
    Calls Try.prog 43 #[v] w fun e w' => e = .returned (if 2000000 < (codeLs l).length + 1 then .tuple #[.string ⟨#[]⟩, .int .i64 3] else .tuple #[.string (codeOf l), .int .i64 0]) ∧ Below w.heap.size w w' := by
  have kv := codeValidP_at _ l w hl _ hv
  have hbd := codeLs_bound l hv
  have hl4 := validB_len hv
  obtain ⟨R, hR⟩ : ∃ R, (if 2000000 < (codeLs l).length + 1 then .tuple #[.string ⟨#[]⟩, .int .i64 3] else .tuple #[.string (codeOf l), .int .i64 0] : Value) = R := ⟨_, rfl⟩
  rw [hR]
  have HR := Lib.hid hR
  obtain ⟨ao, cap, rfl⟩ := hl.len
  have hn5 := hl.2.1
  obtain ⟨n, hn'⟩ : ∃ n, l.length = n := ⟨_, rfl⟩
  rw [hn'] at hl hn5 kv hl4 ⊢
  have HN := Lib.hid hn'
  have HL := Lib.hid hl
  have HV := Lib.hid hv
  have HBD := Lib.hid hbd
  clear hn' hl hv hR hbd
  go_enter Try.func43, Try.ntmps43
  go_wp2_with fail
  refine kv.mono ?_
  rintro e w1 ⟨rfl, hb1⟩
  have HB1 := Lib.hid hb1
  clear kv hb1
  have hB0 := Lib.hid (Lib.IsBuilderF.of (Lib.fresh_isBuilder 127 5 w1))
  have hb0 := Lib.hid (HB1.out.alloc HB1.out.size (.cells #[.pointer none, .slice none 0 0] 127))
  go_wp2
  obtain ⟨w2, hW⟩ : ∃ B, w1.alloc (.cells #[.pointer none, .slice none 0 0] 127) = B := ⟨_, rfl⟩
  rw [hW] at hB0 hb0
  try rw [hW]
  have hsz2 := Lib.hid HB1.out.size
  clear hW
  obtain ⟨b, hb⟩ : ∃ b, w1.heap.size = b := ⟨_, rfl⟩
  rw [hb] at hB0 hsz2 ⊢
  clear hb
  go_loopg [12] n (fun gg i wr => ∃ k : Nat, k ≤ n ∧ gg = n - k ∧ i = .int .i64 k ∧ Hid (Lib.IsBuilderF 127 5 b b (Lib.byteCells (codeLs (l.take k))) wr) ∧ Hid (Below w.heap.size w wr))
  case atStart => exact ⟨0, Nat.zero_le _, rfl, rfl, hB0, hb0⟩
  case round =>
    clear hB0 hb0
    obtain ⟨k, hk, hg, rfl, hB, hb⟩ := hrel
    have HG := Lib.hid hg; clear hg
    have hkb := Lib.hid (Nat.le_trans (codeLs_take l k) HBD.out)
    by_cases hlt : k < n
    · obtain ⟨x, hx⟩ : ∃ s, l[k]? = some s := ⟨_, List.getElem?_eq_getElem (by rw [HN.out]; exact hlt)⟩
      have hr := rightAll_get (validB_all HV.out) hx
      obtain ⟨PF, kF, kP, hent, hbs, m, hop, hm5⟩ := fields_put hr ⟨Int.natCast_nonneg _, by omega, by rw [HN.out]; omega⟩
      have hstep := Lib.hid (codeLs_succ l k hx)
      have hci : Hid (ciL x = (⟨#[49, 49]⟩ ++ TS (.num m)).data.toList ++ (bodyB x).data.toList) := Lib.hid (by unfold ciL; rw [hop]; rfl)
      obtain ⟨g, off, rfl, hg, c0, c1, c2, c3, c4⟩ := (HL.out.below hb.out).get hx
      obtain ⟨y, hy⟩ : ∃ y, bodyB x = y := ⟨_, rfl⟩
      obtain ⟨op, xa, xb, xc, xt⟩ := x
      simp only at hop kF kP c0 c1 c2 c3 c4
      subst hop
      rw [hy] at kP hbs hci
      have HK := Lib.hid hlt
      have hi0 : (0 : Int) ≤ (k : Int) := Int.natCast_nonneg _
      have hi1 : (k : Int) < (n : Int) := by omega
      have KF := Lib.hid kF
      have KP := Lib.hid kP
      have HYS := Lib.hid hbs
      have Kn := Lib.hid (fun w => cnum_any m (by omega) w)
      have hzm : (TS (.num m)).size ≤ 11 := by rw [num_size]; omega
      obtain ⟨nm, hnm⟩ : ∃ z, TS (.num m) = z := ⟨_, rfl⟩
      rw [hnm] at Kn hci hzm
      clear hx hr kF kP hbs hy hlt hnm hm5
      go_wp2_with fail
      obtain ⟨w3, hW⟩ : ∃ B, wr.alloc (.cells #[.int .i64 m, .int .i64 xa, .int .i64 xb, .int .i64 xc, .string xt] 41) = B := ⟨_, rfl⟩
      have hq3 : Below wr.heap.size wr w3 := by rw [← hW]; exact (Below.refl _ _).alloc (Nat.le_refl _) _
      have hx3 : w3.heap[wr.heap.size]? = some (.cells #[.int .i64 m, .int .i64 xa, .int .i64 xb, .int .i64 xc, .string xt] 41 (0, 0)) := by rw [← hW]; exact heap_alloc_new _ _
      rw [hW]
      clear hW c0 c1 c2 c3 c4
      have hbx : wr.heap.size ≠ b := by have := isF_lt hB.out; omega
      obtain ⟨bx, hbxe⟩ : ∃ z, wr.heap.size = z := ⟨_, rfl⟩
      have hB := Lib.hid (isF_below hB.out hq3)
      have hbA := Lib.hid (hb.out.trans (hq3.mono hb.out.size))
      rw [hbxe] at hx3 hbx ⊢
      have hx3 := Lib.hid hx3
      have hbx := Lib.hid hbx
      clear hq3 hbxe hb
      refine (Kn.out _).mono ?_
      rintro e w4 ⟨rfl, hq⟩
      have hB := Lib.hid (isF_below hB.out hq)
      have hbA := Lib.hid (hbA.out.trans (hq.mono hbA.out.size))
      have hx4 := Lib.hid ((hq.block bx (Array.getElem?_eq_some_iff.1 hx3.out).1).trans hx3.out)
      clear hq hx3
      go_wp2_with fail
      have hl1 : (Lib.byteCells (codeLs (l.take k))).length + (⟨#[49, 49]⟩ ++ nm : ByteArray).size ≤ 140737488355328 := by
        rw [Lib.byteCells_length, ByteArray.size_append]
        have h1 : (⟨#[49, 49]⟩ : ByteArray).size = 2 := rfl
        have := hkb.out
        omega
      have kw := wstr_k b (Lib.byteCells (codeLs (l.take k))) (⟨#[49, 49]⟩ ++ nm) w4 hB.out hl1
      clear hl1
      refine kw.mono ?_
      clear kw
      rintro e w5 ⟨rfl, hB5, hq5, hk5⟩
      have hsz1 : Hid ((Lib.byteCells (codeLs (l.take k)) ++ Lib.strCells (⟨#[49, 49]⟩ ++ nm)).length ≤ 4000020 * 4000 + 13) := Lib.hid (by rw [List.length_append, Lib.byteCells_length, Lib.strCells_length, ByteArray.size_append]; have h1 : (⟨#[49, 49]⟩ : ByteArray).size = 2 := rfl; have := hkb.out; omega)
      have hx5 : w5.heap[bx]? = _ := hk5 bx _ hx4.out (by simpa using hbx.out) (by intro c fz e; cases e)
      have hB := Lib.hid hB5
      have hbA := Lib.hid (hbA.out.trans (hq5.mono hsz2.out))
      have cc := (block_cells hx5).1
      have KK := Lib.hid (fun (w' : World) (hb : Below w5.heap.size w5 w') => (show w'.cell? ⟨bx, 0, none⟩ = some (.int .i64 m) ∧ w'.cell? ⟨bx, 1, none⟩ = some (.int .i64 xa) ∧ w'.cell? ⟨bx, 2, none⟩ = some (.int .i64 xb) ∧ w'.cell? ⟨bx, 3, none⟩ = some (.int .i64 xc) ∧ w'.cell? ⟨bx, 4, none⟩ = some (.string xt) from
        have hl := (Array.getElem?_eq_some_iff.1 hx5).1
        ⟨(hb.cell (p := ⟨bx, 0, none⟩) hl).trans (cc 0), (hb.cell (p := ⟨bx, 1, none⟩) hl).trans (cc 1), (hb.cell (p := ⟨bx, 2, none⟩) hl).trans (cc 2), (hb.cell (p := ⟨bx, 3, none⟩) hl).trans (cc 3), (hb.cell (p := ⟨bx, 4, none⟩) hl).trans (cc 4)⟩))
      obtain ⟨d0, d1, d2, d3, d4⟩ := KK.out w5 (Below.refl _ _)
      have KF := Lib.hid (fun (w' : World) (hb : Below w5.heap.size w5 w') => (KF.out w').mono fun e w'' h => (show ∃ g, e = .returned (.agg #[.func (.func PF) #[] #[], g]) ∧ Below w5.heap.size w5 w'' from by obtain ⟨g, h1, h2⟩ := h; exact ⟨g, h1, hb.trans (h2.mono hb.size)⟩))
      have KP := Lib.hid (fun (w' : World) (hb : Below w5.heap.size w5 w') => (KP.out w').mono fun e w'' h => (show e = .returned (.string y) ∧ Below w5.heap.size w5 w'' from ⟨h.1, hb.trans (h.2.mono hb.size)⟩))
      have KW := Lib.hid (fun (w' : World) (hb : Below w5.heap.size w5 w') => (wstr_k b _ y w' (isF_below hB.out hb) (by have := hsz1.out; have := HYS.out; omega)).mono fun e w'' h => (show e = .returned (.tuple #[.int .i64 y.size, .nilIface]) ∧ Hid (Lib.IsBuilderF 127 5 b b ((Lib.byteCells (codeLs (l.take k)) ++ Lib.strCells (⟨#[49, 49]⟩ ++ nm)) ++ Lib.strCells y) w'') ∧ Hid (Below w.heap.size w w'') from ⟨h.1, Lib.hid h.2.1, Lib.hid ((hbA.out.trans (hb.mono hbA.out.size)).trans (h.2.2.1.mono hsz2.out))⟩))
      clear hB5 hq5 hk5 hx5 cc hx4
      have hfld := fun g w => field0 (.func (.func PF) #[] #[]) g w
      go_wp2
      go_region_law ((first
        | (go_simp; (with_reducible refine (KF.out _ (by first | exact Below.refl _ _ | exact (Below.refl _ _).drew)).mono ?_); rintro e v1 ⟨g1, rfl, hb1⟩; obtain ⟨e0, e1, e2, e3, e4⟩ := KK.out _ hb1)
        | (go_simp; (with_reducible refine (KP.out _ (by first | exact hb1 | exact hb1.drew)).mono ?_); rintro e v2 ⟨rfl, hb2⟩)
        | (go_simp; (with_reducible refine (KW.out _ (by first | exact hb2 | exact hb2.drew)).mono ?_); rintro e v3 ⟨rfl, hB3, hb3⟩)))
      all_goals (
      have hnew : Hid (Lib.IsBuilderF 127 5 b b (Lib.byteCells (codeLs (l.take (k + 1)))) v3) := Lib.hid (by
        rw [hstep.out, hci.out]
        have h3 := hB3.out
        simpa [Lib.byteCells, Lib.strCells] using h3)
      clear hB3 hb1 hb2 d0 d1 d2 d3 d4 e0 e1 e2 e3 e4
      go_wp2
      go_roundg (n - (k + 1))
      case measure => rw [HG.out]; have := HK.out; omega
      case rel => exact ⟨k + 1, HK.out, rfl, by go_num, hnew, hb3⟩)
    · have hkn : k = n := by omega
      subst hkn
      rw [List.take_of_length_le (by rw [HN.out]; omega)] at hB
      go_wp2_with fail
      refine (wbyte_k b _ 48 _ hB.out (by rw [Lib.byteCells_length]; have := HBD.out; omega)).mono ?_
      rintro e w3 ⟨rfl, hB3, hq3, _⟩
      have hB3' := Lib.hid (show Lib.IsBuilderF 127 5 b b (Lib.byteCells (codeLs l ++ [48])) w3 from by simpa [Lib.byteCells] using hB3)
      have hb3 := Lib.hid (hb.out.trans (hq3.mono hsz2.out))
      have kl := Lib.hid (Any.Builder_Len_f Try.lays170 b b _ w3 hB3'.out)
      have hlen : Hid ((Lib.byteCells (codeLs l ++ [48])).length = (codeLs l).length + 1) := Lib.hid (by rw [Lib.byteCells_length]; simp)
      rw [hlen.out] at kl
      obtain ⟨N, hN⟩ : ∃ N, (codeLs l).length + 1 = N := ⟨_, rfl⟩
      rw [hN] at kl HR
      clear hB3 hq3 hN hlen
      by_cases hbig : (2000000 : Int) < (N : Int)
      · have hRe := Lib.hid (show R = .tuple #[.string ⟨#[]⟩, .int .i64 3] by rw [← HR.out, if_pos (by omega)])
        go_wp2_with fail
        refine kl.out.mono ?_
        rintro e w4 ⟨rfl, rfl⟩
        go_wp2
        refine bodyPost_ret (v := .tuple #[.string ⟨#[]⟩, .int .i64 3]) (by simp [results, Try.results43, go_sem]) rfl ?_
        exact ⟨by rw [hRe.out], hb3.out⟩
      · have hRe := Lib.hid (show R = .tuple #[.string (codeOf l), .int .i64 0] by rw [← HR.out, if_neg (by omega)])
        have ks := Lib.hid (Any.Builder_String_any_f Try.lays169 Try.Builder_Extra_169 b b _ w3 hB3'.out (Nat.le_of_lt (isF_lt hB3'.out)))
        go_wp2_with fail
        refine kl.out.mono ?_
        rintro e w4 ⟨rfl, rfl⟩
        go_wp2_with fail
        refine ks.out.mono ?_
        rintro e w5 ⟨rfl, _, hq5⟩
        go_wp2
        refine bodyPost_ret (v := .tuple #[.string (codeOf l), .int .i64 0]) (by simp [results, Try.results43, go_sem, codeOf]) rfl ?_
        exact ⟨by rw [hRe.out], hb3.out.trans (hq5.mono hsz2.out)⟩

end Go.Proofs.Ytlaeljkjdfffjaa

namespace Go.Proofs.Ytlaeljkjdfffjaa
open Go.RowKit

def clearL (f m : Nat) : List Ins := (List.range m).map fun j => setI (f + j) ⟨#[48]⟩
theorem clearL_succ (f m : Nat) : clearL f (m + 1) = clearL f m ++ [setI (f + m) ⟨#[48]⟩] := by unfold clearL; rw [List.range_succ, List.map_append]; rfl
theorem clearL_length (f m : Nat) : (clearL f m).length = m := by simp [clearL]
set_option maxHeartbeats 4000000 in
theorem kclear_any (f m : Nat) (hf : f ≤ 1000) (hm : m ≤ 1000) (w : World) (ti : Int) (hti : ti = (f : Int) + m - 1) :
    Calls Try.prog 116 #[.int .i64 f, .int .i64 ti] w fun e w' => ∃ a c, e = .returned (.slice a m c) ∧ OwnI w' w.heap.size (.slice a m c) (clearL f m) ∧ Below w.heap.size w w' := by
  have HT := Lib.hid hti
  clear hti
  go_enter Try.func116, Try.ntmps116
  go_wp2
  go_loopg [5, 6] m (fun gg o i wr => ∃ k : Nat, k ≤ m ∧ gg = m - k ∧ i = .int .i64 ((f : Int) + k) ∧ Hid (OwnI wr w.heap.size o (clearL f k) ∧ Below w.heap.size w wr))
  case atStart => exact ⟨0, by omega, rfl, by simp, OwnI.nil _ _, Below.refl _ _⟩
  case round =>
    obtain ⟨k, hk, hg, rfl, hP⟩ := hrel
    have HG := Lib.hid hg; clear hg
    by_cases hlt : k < m
    · have hi : (f : Int) + (k : Int) ≤ ti := by rw [HT.out]; omega
      have hown := hP.out.1.own
      rw [clearL_length] at hown
      have hb := hP.out.2
      have hsz := hb.size
      go_wp2_with (at_builtin; refine app_new el_ins rfl _ _ rfl rfl hown (inscells [setI (f + k) ⟨#[48]⟩]) 1 rfl rfl ?c1 ?c2 ?c3 hsz hb (Nat.le_refl _) ?_)
      case c1 => exact inscells_one _
      case c2 => omega
      case c3 => unfold maxLen; omega
      intro v' w' hown' hb' hgr
      have hnew : Hid (OwnI w' w.heap.size v' (clearL f (k + 1)) ∧ Below w.heap.size w w') := Lib.hid ⟨by rw [clearL_succ]; exact OwnI.snoc (by rw [clearL_length]; exact hown') hP.out.1.wf (setI_wf _ _ (by omega) (by decide)), hb'⟩
      clear hown hown' hb hb' hgr hP
      go_wp2
      go_roundg (m - (k + 1))
      case measure => rw [HG.out]; omega
      case rel => exact ⟨k + 1, by omega, rfl, by first | rfl | (congr 1; omega), hnew⟩
    · have hkm : k = m := by omega
      subst hkm
      have hi : ¬ (f : Int) + (k : Int) ≤ ti := by rw [HT.out]; omega
      have hsl := hP.out.1.slice
      rw [clearL_length] at hsl
      obtain ⟨a2, c2, rfl⟩ := hsl
      have hP1 := Lib.hid hP.out.1
      have hP2 := Lib.hid hP.out.2
      go_wp2
      refine bodyPost_ret (v := .slice a2 k c2) (by simp [results, Try.results116, go_sem]) rfl ?_
      exact ⟨_, _, rfl, hP1.out, hP2.out⟩
def beforeL : List Ins := [⟨3, 2, 0, 0, ⟨#[]⟩⟩, ⟨4, 3, 0, 0, ⟨#[]⟩⟩, setI 4 ⟨#[49, 48, 48]⟩, consI 4 4 2, consI 4 1 4, setI 5 ⟨#[49, 48, 49, 49, 48, 48, 48]⟩, consI 5 5 2, setI 6 ⟨#[49, 49, 48, 49, 48, 48, 49, 48, 49, 49, 48, 48, 48]⟩, consI 5 6 5, consI 5 4 5, consI 0 5 3]
def behindL : List Ins := beforeL ++ clearL 2 5
theorem beforeL_wf : ∀ x ∈ beforeL, x.wf := by
  intro x hx
  simp only [beforeL, List.mem_cons, List.not_mem_nil, or_false] at hx
  rcases hx with rfl | rfl | rfl | rfl | rfl | rfl | rfl | rfl | rfl | rfl | rfl
  all_goals exact wf_lit _ _ _ _ _ (by unfold i64; decide) (by unfold i64; decide) (by unfold i64; decide) (by unfold i64; decide) (by decide)
theorem kclear_row (f m : Nat) (hf : f ≤ 1000) (hm : m ≤ 1000) (w : World) (ti : Int) (hti : ti = (f : Int) + m - 1) :
    Calls Try.prog 116 #[.int .i64 f, .int .i64 ti] w fun e w' => ∃ a c, e = .returned (.slice a m c) ∧ InsRow w' w'.heap.size (.slice a m c) (clearL f m) ∧ Below w.heap.size w w' :=
  (kclear_any f m hf hm w ti hti).mono fun e w' ⟨a, c, h1, h2, h3⟩ => ⟨a, c, h1, h2.row (by rw [clearL_length]; omega), h3⟩
theorem put_code : codeOf [consI 0 1 0] = ⟨#[49, 49, 49, 48, 49, 48, 48, 49, 48, 49, 49, 48, 48, 48, 48]⟩ := by decide +kernel
theorem clear_code : codeOf [setI 1 ⟨#[48]⟩] = ⟨#[49, 49, 48, 49, 49, 48, 48, 48, 48]⟩ := by decide +kernel

theorem code_at (v : Value) (l : List Ins) (s : ByteArray) (w : World) (hl : InsRow w w.heap.size v l) (hv : validB l = true) (hs : codeOf l = s) (hz : (codeLs l).length + 1 ≤ 2000000) :
    Calls Try.prog 43 #[v] w fun e w' => e = .returned (.tuple #[.string s, .int .i64 0]) ∧ Below w.heap.size w w' := by
  have h := code_ok v l w hl hv
  rw [if_neg (by omega), hs] at h
  exact h
set_option maxRecDepth 20000 in
set_option maxHeartbeats 4000000 in
theorem before_any (w : World) : Calls Try.prog 149 #[] w fun e w' => ∃ a c, e = .returned (.slice a 16 c) ∧ InsRow w' w'.heap.size (.slice a 16 c) behindL ∧ Below w.heap.size w w' := by
  have ch := Lib.hid (Below.refl w.heap.size w)
  go_enter Try.func149, Try.ntmps149
  go_wp2_with fail
  obtain ⟨w1, hW⟩ : ∃ B, w.alloc (.cells #[.int .i64 2, .int .i64 0, .int .i64 1, .int .i64 0, .string ⟨#[]⟩] 41) = B := ⟨_, rfl⟩
  rw [hW]
  have hq : Below w.heap.size w w1 := by rw [← hW]; exact (Below.refl _ _).alloc (Nat.le_refl _) _
  have h1 := Lib.hid (show InsRow w1 w1.heap.size (.slice (some ⟨w.heap.size, 0, none⟩) 1 1) [consI 0 1 0] by rw [← hW]; exact (OwnI.lit w [consI 0 1 0] (by simp; exact consI_wf _ _ _ (by omega) (by omega) (by omega)) (by simp)).row (by simp))
  clear hW
  have ch := Lib.hid (ch.out.trans (hq.mono ch.out.size))
  clear hq
  refine (code_at _ [consI 0 1 0] _ _ h1.out (by decide +kernel) put_code (by decide +kernel)).mono ?_
  rintro e w2 ⟨rfl, hq⟩
  have h1 := Lib.hid ((h1.out.below hq).mono hq.size)
  have ch := Lib.hid (ch.out.trans (hq.mono ch.out.size))
  clear hq
  clear h1
  go_wp2_with fail
  obtain ⟨w3, hW⟩ : ∃ B, w2.alloc (.cells #[.int .i64 0, .int .i64 1, .int .i64 0, .int .i64 0, .string ⟨#[48]⟩] 41) = B := ⟨_, rfl⟩
  rw [hW]
  have hq : Below w2.heap.size w2 w3 := by rw [← hW]; exact (Below.refl _ _).alloc (Nat.le_refl _) _
  have h2 := Lib.hid (show InsRow w3 w3.heap.size (.slice (some ⟨w2.heap.size, 0, none⟩) 1 1) [setI 1 ⟨#[48]⟩] by rw [← hW]; exact (OwnI.lit w2 [setI 1 ⟨#[48]⟩] (by simp; exact setI_wf _ _ (by omega) (by decide)) (by simp)).row (by simp))
  clear hW
  have ch := Lib.hid (ch.out.trans (hq.mono ch.out.size))
  clear hq
  refine (code_at _ [setI 1 ⟨#[48]⟩] _ _ h2.out (by decide +kernel) clear_code (by decide +kernel)).mono ?_
  rintro e w4 ⟨rfl, hq⟩
  have h2 := Lib.hid ((h2.out.below hq).mono hq.size)
  have ch := Lib.hid (ch.out.trans (hq.mono ch.out.size))
  clear hq
  clear h2
  go_wp2_with fail
  rw [show (⟨#[49, 49, 48, 49, 49, 48, 48, 48, 48]⟩ : ByteArray).extract 1 8 = ⟨#[49, 48, 49, 49, 48, 48, 48]⟩ by decide +kernel, show (⟨#[49, 49, 49, 48, 49, 48, 48, 49, 48, 49, 49, 48, 48, 48, 48]⟩ : ByteArray).extract 1 14 = ⟨#[49, 49, 48, 49, 48, 48, 49, 48, 49, 49, 48, 48, 48]⟩ by decide +kernel]
  have rl := Lib.hid (Below.refl w4.heap.size w4)
  obtain ⟨w5, hW⟩ : ∃ B, w4.alloc (.cells #[.int .i64 3, .int .i64 2, .int .i64 0, .int .i64 0, .string ⟨#[]⟩, .int .i64 4, .int .i64 3, .int .i64 0, .int .i64 0, .string ⟨#[]⟩, .int .i64 0, .int .i64 4, .int .i64 0, .int .i64 0, .string ⟨#[49, 48, 48]⟩, .int .i64 2, .int .i64 4, .int .i64 4, .int .i64 2, .string ⟨#[]⟩, .int .i64 2, .int .i64 4, .int .i64 1, .int .i64 4, .string ⟨#[]⟩, .int .i64 0, .int .i64 5, .int .i64 0, .int .i64 0, .string ⟨#[49, 48, 49, 49, 48, 48, 48]⟩, .int .i64 2, .int .i64 5, .int .i64 5, .int .i64 2, .string ⟨#[]⟩, .int .i64 0, .int .i64 6, .int .i64 0, .int .i64 0, .string ⟨#[49, 49, 48, 49, 48, 48, 49, 48, 49, 49, 48, 48, 48]⟩, .int .i64 2, .int .i64 5, .int .i64 6, .int .i64 5, .string ⟨#[]⟩, .int .i64 2, .int .i64 5, .int .i64 4, .int .i64 5, .string ⟨#[]⟩, .int .i64 2, .int .i64 0, .int .i64 5, .int .i64 3, .string ⟨#[]⟩] 41) = B := ⟨_, rfl⟩
  rw [hW]
  have hq : Below w4.heap.size w4 w5 := by rw [← hW]; exact (Below.refl _ _).alloc (Nat.le_refl _) _
  have ho := Lib.hid (show OwnI w5 w4.heap.size (.slice (some ⟨w4.heap.size, 0, none⟩) 11 11) beforeL by rw [← hW]; exact OwnI.lit w4 beforeL (by exact beforeL_wf) (by first | simp | decide))
  clear hW
  have rl := Lib.hid (rl.out.trans (hq.mono rl.out.size))
  clear hq
  have hch := Lib.hid ch.out
  refine (kclear_row 2 5 (by decide) (by decide) _ 6 (by decide)).mono ?_
  rintro e w6 ⟨ca, cc, rfl, hcl, hq⟩
  have ho := Lib.hid (ho.out.below hq)
  have rl := Lib.hid (rl.out.trans (hq.mono rl.out.size))
  clear hq
  have hcl := Lib.hid hcl
  have ho0 := ho.out
  have hb0 := rl.out
  have hs0 := hcl.out
  go_wp2_with (at_builtin; refine app_row rfl _ _ rfl (v := .slice (some ⟨w4.heap.size, 0, none⟩) 11 11) (vx := .slice ca 5 cc) rfl ho0 rfl hs0 ?c2 hb0 ?_)
  case c2 => simp [beforeL, clearL_length]
  clear ho0 hb0 hs0 ho
  intro a7 k7 s7 w7 hk7 ho hb
  have rl := hb
  clear hb
  clear hcl
  have ch := Lib.hid (ch.out.trans (rl.out.mono ch.out.size))
  go_wp2
  have hk16 : k7 = 16 := by have := hk7.out; simpa [beforeL, clearL_length] using this
  subst hk16
  refine bodyPost_ret (v := .slice a7 16 s7) (by simp [results, Try.results149, go_sem]) rfl ?_
  exact ⟨_, _, rfl, ho.out.row (by simp [beforeL, clearL_length]), ch.out⟩
end Go.Proofs.Ytlaeljkjdfffjaa

namespace Go.Proofs.Ytlaeljkjdfffjaa
open Go.RowKit

theorem flat_len_take (ls : List (List Ins)) (k : Nat) : ((ls.take k).flatten).length ≤ lenS ls := by rw [lenS_flatten]; exact lenS_take ls k
set_option maxHeartbeats 4000000 in
theorem join_any (v : Value) (ls : List (List Ins)) (w : World) (hl : ProgsRow w w.heap.size v ls) (hT : lenS ls ≤ 1000000000) :
    Calls Try.prog 119 #[v] w fun e w' => ∃ a c, e = .returned (.tuple #[.slice a (lenS ls) c, .bool (validB ls.flatten)]) ∧ InsRow w' w'.heap.size (.slice a (lenS ls) c) ls.flatten ∧ Below w.heap.size w w' := by
  obtain ⟨ao, cap, rfl⟩ := hl.len
  have hn5 := hl.1
  obtain ⟨n, hn'⟩ : ∃ n, ls.length = n := ⟨_, rfl⟩
  rw [hn'] at hl hn5 ⊢
  have HN := Lib.hid hn'; clear hn'
  have HL := Lib.hid hl; clear hl
  have HT := Lib.hid hT; clear hT
  obtain ⟨N, hN⟩ : ∃ N, lenS ls = N := ⟨_, rfl⟩
  obtain ⟨bv, hbv⟩ : ∃ b, validB ls.flatten = b := ⟨_, rfl⟩
  rw [hN, hbv]
  have HNN := Lib.hid hN
  have HBV := Lib.hid hbv
  clear hN hbv
  go_enter Try.func119, Try.ntmps119
  go_wp2
  go_loopg [4, 9] n (fun gg o i wr => ∃ k : Nat, k ≤ n ∧ gg = n - k ∧ i = .int .i64 k ∧ Hid (OwnI wr w.heap.size o (ls.take k).flatten ∧ Below w.heap.size w wr))
  case atStart => exact ⟨0, by omega, rfl, rfl, OwnI.nil _ _, Below.refl _ _⟩
  case round =>
    obtain ⟨k, hk, hg, rfl, hP⟩ := hrel
    have HG := Lib.hid hg; clear hg
    by_cases hlt : k < n
    · obtain ⟨l, hx⟩ : ∃ s, ls[k]? = some s := ⟨_, List.getElem?_eq_getElem (by rw [HN.out]; exact hlt)⟩
      have hl2 := HL.out.step hP.out.2
      obtain ⟨g, off, u, rfl, hg, c0, hu⟩ := hl2.get hx
      have hi0 : (0 : Int) ≤ (k : Int) := Int.natCast_nonneg _
      have hi1 : (k : Int) < (n : Int) := by omega
      have hb1 := flat_len_take ls (k + 1)
      rw [take_snoc' _ _ _ hx, List.flatten_append, List.length_append] at hb1
      simp only [List.flatten_cons, List.flatten_nil, List.append_nil] at hb1
      have HB := Lib.hid (Nat.le_trans hb1 HT.out)
      have HX := Lib.hid hx
      clear hx hl2 hb1
      have ho0 := hP.out.1
      have hb0 := hP.out.2
      go_wp2_with (at_builtin; refine app_row rfl _ _ rfl (vx := u) rfl ho0 rfl hu ?c2 hb0 ?_)
      case c2 => exact HB.out
      intro a1 k1 s1 w1 hk1 ho hbb
      have hnew : Hid (OwnI w1 w.heap.size (.slice a1 k1 s1) (ls.take (k + 1)).flatten ∧ Below w.heap.size w w1) := Lib.hid ⟨by rw [take_snoc' _ _ _ HX.out, List.flatten_append]; simpa using ho.out, hbb.out⟩
      clear ho0 hb0 hu c0 ho hbb hP hk1
      go_wp2
      go_roundg (n - (k + 1))
      case measure => rw [HG.out]; omega
      case rel => exact ⟨k + 1, by omega, rfl, by go_num, hnew⟩
    · have hkn : k = n := by omega
      subst hkn
      rw [List.take_of_length_le (by rw [HN.out]; omega)] at hP
      have hsl := hP.out.1.slice
      rw [lenS_flatten, HNN.out] at hsl
      obtain ⟨a2, c2, rfl⟩ := hsl
      have hrow := Lib.hid (hP.out.1.row (by rw [lenS_flatten]; have := HT.out; omega))
      have hb0 := Lib.hid hP.out.2
      have kv := codeValidP_at _ ls.flatten _ hrow.out _ HBV.out
      clear hP
      go_wp2_with fail
      refine kv.mono ?_
      rintro e w2 ⟨rfl, hb2⟩
      have hrow := Lib.hid ((hrow.out.below hb2).mono hb2.size)
      have hb0 := Lib.hid (hb0.out.trans (hb2.mono hb0.out.size))
      clear hb2 kv
      go_wp2
      refine bodyPost_ret (v := .tuple #[.slice a2 N c2, .bool bv]) (by simp [results, Try.results119, go_sem]) rfl ?_
      exact ⟨_, _, rfl, hrow.out, hb0.out⟩

/-- The code as a tree. -/
def bodyT (x : Ins) : Tr :=
  if x.op = 0 then .pair (.num x.a.toNat) (toTr x.tree)
  else if x.op = 2 then .pair (.num x.a.toNat) (.pair (.num x.b.toNat) (.num x.c.toNat))
  else if x.op = 5 then (if x.b < 0 then .pair (.num x.a.toNat) (.pair (.pair .nil .nil) (.num (-x.b).toNat)) else .pair (.num x.a.toNat) (.pair .nil (.num x.b.toNat)))
  else .pair (.num x.a.toNat) (.num x.b.toNat)
def insT (x : Ins) : Tr := .pair (.num x.op.toNat) (bodyT x)
def codeT : List Ins → Tr
  | [] => .nil
  | x :: l => .pair (insT x) (codeT l)
theorem bodyT_enc {x : Ins} {i n : Int} (h : rightB x i n = true) : (bodyT x).enc = (bodyB x).data.toList := by
  have hl : ∀ t : Tr, t.enc = (TS t).data.toList := fun t => (TS_list t).symm
  unfold bodyT bodyB
  by_cases h0 : x.op = 0
  · rw [if_pos h0, if_pos h0]
    have ht : isTree x.tree = true := by
      unfold rightB at h
      simp only [Bool.and_eq_true] at h
      have h3 := h.2
      rw [if_pos h0, Bool.and_eq_true] at h3
      exact h3.2
    have h4 : (toTr x.tree).enc = x.tree.data.toList := by rw [hl, TS_toTr ht]
    simp [Tr.enc, h4, hl]
  · rw [if_neg h0, if_neg h0]
    by_cases h2 : x.op = 2
    · rw [if_pos h2, if_pos h2]; simp [Tr.enc, hl]
    · rw [if_neg h2, if_neg h2]
      by_cases h5 : x.op = 5
      · rw [if_pos h5, if_pos h5]
        by_cases hb : x.b < 0
        · rw [if_pos hb, if_pos hb]; simp [Tr.enc, hl]
        · rw [if_neg hb, if_neg hb]; simp [Tr.enc, hl]
      · rw [if_neg h5, if_neg h5]; simp [Tr.enc, hl]
theorem codeT_enc : ∀ (l : List Ins), (∀ x ∈ l, ∃ i n, rightB x i n = true) → (codeT l).enc = codeLs l ++ [48]
  | [], _ => rfl
  | x :: l, h => by
    obtain ⟨i, n, hr⟩ := h x (List.mem_cons_self)
    have h1 := codeT_enc l (fun y hy => h y (List.mem_cons_of_mem _ hy))
    have hl : ∀ t : Tr, t.enc = (TS t).data.toList := fun t => (TS_list t).symm
    show 49 :: ((49 :: ((Tr.num x.op.toNat).enc ++ (bodyT x).enc)) ++ (codeT l).enc) = _
    rw [h1, bodyT_enc hr]
    have h3 : codeLs (x :: l) = ciL x ++ codeLs l := by simp [codeLs]
    rw [h3]
    unfold ciL
    simp [hl]
theorem valid_rights {l : List Ins} (hv : rightAll l = true) : ∀ x ∈ l, ∃ i n, rightB x i n = true := by
  intro x hx
  obtain ⟨k, hk, rfl⟩ := List.getElem_of_mem hx
  exact ⟨_, _, rightAll_get hv (List.getElem?_eq_getElem hk)⟩
theorem codeOf_TS {l : List Ins} (hv : rightAll l = true) : codeOf l = TS (codeT l) := by
  unfold codeOf TS
  rw [codeT_enc l (valid_rights hv)]
theorem codeOf_size (l : List Ins) : (codeOf l).size = (codeLs l).length + 1 := by unfold codeOf; simp [ByteArray.size]
theorem codeOf_tree {l : List Ins} (hv : rightAll l = true) (hs : (codeLs l).length + 1 ≤ 2000000) : isTree (codeOf l) = true := by
  rw [codeOf_TS hv]
  refine isTree_TS _ ?_
  rw [← TS_size, ← codeOf_TS hv, codeOf_size]; exact hs

end Go.Proofs.Ytlaeljkjdfffjaa

namespace Go.Proofs.Ytlaeljkjdfffjaa
open Go.RowKit

def specH (d : ByteArray) : List Ins := [⟨0, 1, 0, 0, d⟩, ⟨2, 0, 1, 0, ⟨#[]⟩⟩, ⟨0, 1, 0, 0, ⟨#[48]⟩⟩]
def specL (d : ByteArray) (l : List Ins) : List Ins := specH d ++ l
theorem specL_trees (d : ByteArray) (l : List Ins) : trees (specL d l) = d.size + 1 + trees l := by
  unfold specL; rw [trees_append]; simp [specH, trees]; rfl
theorem specL_length (d : ByteArray) (l : List Ins) : (specL d l).length = l.length + 3 := by simp [specL, specH]
theorem isTree_48 : isTree ⟨#[48]⟩ = true := by decide +kernel
theorem specL_right (d : ByteArray) (l : List Ins) (hd : isTree d = true) (hl : rightAll l = true) : rightAll (specL d l) = true := by
  refine rightAll_append ?_ (fun i x hx => rightAll_at hl hx (by simp [specH]; omega))
  intro i x hx
  match i, hx with
  | 0, hx => simp [specH] at hx; subst hx; unfold rightB; simp [regB, hd]
  | 1, hx => simp [specH] at hx; subst hx; unfold rightB; simp [regB]
  | 2, hx => simp [specH] at hx; subst hx; unfold rightB; simp [regB, isTree_48]
  | i + 3, hx => simp [specH] at hx
theorem specL_valid (d : ByteArray) (l : List Ins) (hd : isTree d = true) (hl : validB l = true) : validB (specL d l) = fitsP (specL d l) := validB_fits (specL_right d l hd (validB_all hl))

theorem goF_shift (l : List Ins) (c : Nat) : ∀ (f n : Nat) (s : St), goF l f (n + c) s = match goF l f n s with
    | .done s' m => .done s' (m + c)
    | .fuel s' m => .fuel s' (m + c)
    | .big => .big := by
  intro f
  induction f with
  | zero =>
    intro n s
    by_cases hp : s.pos = l.length
    · rw [goF_done hp, goF_done hp]
    · rw [goF_zero hp, goF_zero hp]
  | succ f ih =>
    intro n s
    by_cases hp : s.pos = l.length
    · rw [goF_done hp, goF_done hp]
    · cases hs : stepP l s with
      | none => rw [goF_big hp hs, goF_big hp hs]
      | some s1 => rw [goF_step hp hs, goF_step hp hs, show n + c + 1 = n + 1 + c by omega]; exact ih _ _
theorem stepX_set {x : Ins} {s : St} (h : x.op = 0) : stepX x s = some ⟨s.pos + 1, setR s.regs x.a (toTr x.tree)⟩ := by unfold stepX; rw [if_pos h]
theorem toTr_48 : toTr ⟨#[48]⟩ = .nil := toTr_TS .nil (by decide)
theorem spec_1 (d x : Tr) (hd : d.size ≤ 2000000) (l : List Ins) : stepP (specL (TS d) l) (startS x) = some ⟨1, x :: d :: List.replicate 30 .nil⟩ := by
  have h := stepX_set (x := ⟨0, 1, 0, 0, TS d⟩) (s := startS x) rfl
  rw [toTr_TS d hd] at h
  exact h
theorem spec_2 (d x : Tr) (l : List Ins) (h : (Tr.pair d x).size ≤ 2000000) : stepP (specL (TS d) l) ⟨1, x :: d :: List.replicate 30 .nil⟩ = some ⟨2, .pair d x :: d :: List.replicate 30 .nil⟩ :=
  stepX_cons (x := ⟨2, 0, 1, 0, ⟨#[]⟩⟩) (s := ⟨1, x :: d :: List.replicate 30 .nil⟩) rfl h
theorem spec_2big (d x : Tr) (l : List Ins) (h : 2000000 < (Tr.pair d x).size) : stepP (specL (TS d) l) ⟨1, x :: d :: List.replicate 30 .nil⟩ = none :=
  stepX_big (x := ⟨2, 0, 1, 0, ⟨#[]⟩⟩) (s := ⟨1, x :: d :: List.replicate 30 .nil⟩) rfl h
theorem spec_3 (d y : Tr) (l : List Ins) : stepP (specL (TS d) l) ⟨2, y :: d :: List.replicate 30 .nil⟩ = some ⟨3, (startS y).regs⟩ := by
  have h := stepX_set (x := ⟨0, 1, 0, 0, ⟨#[48]⟩⟩) (s := ⟨2, y :: d :: List.replicate 30 .nil⟩) rfl
  rw [toTr_48] at h
  exact h
theorem spec_big (d x : Tr) (hd : d.size ≤ 2000000) (l : List Ins) (h : 2000000 < (Tr.pair d x).size) (f : Nat) : goF (specL (TS d) l) (f + 3) 0 (startS x) = .big := by
  have hn : (specL (TS d) l).length = l.length + 3 := specL_length _ _
  rw [show f + 3 = (f + 2) + 1 by omega, goF_step (by show 0 ≠ _; omega) (spec_1 d x hd l), show f + 2 = (f + 1) + 1 by omega, goF_big (by show 1 ≠ _; omega) (spec_2big d x l h)]
theorem spec_run (d x : Tr) (hd : d.size ≤ 2000000) (l : List Ins) (hl : rightAll l = true) (h : (Tr.pair d x).size ≤ 2000000) (f : Nat) :
    (goF (specL (TS d) l) (f + 3) 0 (startS x)).run = match goF l f 0 (startS (.pair d x)) with
      | .done s m => (TS (getR s.regs 0), m + 3, 0)
      | .fuel _ _ => (⟨#[]⟩, 0, 7)
      | .big => (⟨#[]⟩, 0, 3) := by
  have hn : (specL (TS d) l).length = l.length + 3 := specL_length _ _
  rw [show f + 3 = (f + 2) + 1 by omega, goF_step (by show 0 ≠ _; omega) (spec_1 d x hd l), show f + 2 = (f + 1) + 1 by omega, goF_step (by show 1 ≠ _; omega) (spec_2 d x l h), goF_step (by show 2 ≠ _; omega) (spec_3 d _ l)]
  have hs : Seg (specL (TS d) l) 3 l := Seg.right (specH (TS d)) l
  obtain ⟨r1, r2, r3⟩ := hs.run hl (by omega) f 3 (startS (.pair d x)) (Good.start _ _ h)
  have hsh := goF_shift l 3 f 0 (startS (.pair d x))
  cases hR : goF l f 0 (startS (.pair d x)) with
  | done s m =>
    rw [hR] at hsh
    obtain ⟨_, _, e⟩ := r1 s (m + 3) hsh
    have : (goF (specL (TS d) l) f 3 ⟨3, (startS (.pair d x)).regs⟩) = .done ⟨3 + l.length, s.regs⟩ (m + 3) := by
      refine e.trans (goF_done ?_)
      show 3 + l.length = _
      omega
    show (goF (specL (TS d) l) f 3 ⟨3, (startS (.pair d x)).regs⟩).run = _
    rw [this]; rfl
  | fuel s m =>
    rw [hR] at hsh
    show (goF (specL (TS d) l) f 3 ⟨3, (startS (.pair d x)).regs⟩).run = _
    have := r2 s (m + 3) hsh
    exact (congrArg Res.run this).trans rfl
  | big =>
    rw [hR] at hsh
    exact (congrArg Res.run (r3 hsh)).trans rfl

/-! ### Walks -/
theorem specH_wf (d : ByteArray) (hd : d.size ≤ 140737488355328) : ∀ x ∈ specH d, x.wf := by
  intro x hx
  simp [specH] at hx
  rcases hx with rfl | rfl | rfl
  · exact wf_lit _ _ _ _ _ (by unfold i64; decide) (by unfold i64; decide) (by unfold i64; decide) (by unfold i64; decide) hd
  · exact wf_lit _ _ _ _ _ (by unfold i64; decide) (by unfold i64; decide) (by unfold i64; decide) (by unfold i64; decide) (by decide)
  · exact wf_lit _ _ _ _ _ (by unfold i64; decide) (by unfold i64; decide) (by unfold i64; decide) (by unfold i64; decide) (by decide)
theorem specH_own (w : World) (d : ByteArray) : (w.alloc (.cells #[.int .i64 0, .int .i64 1, .int .i64 0, .int .i64 0, .string d, .int .i64 2, .int .i64 0, .int .i64 1, .int .i64 0, .string ⟨#[]⟩, .int .i64 0, .int .i64 1, .int .i64 0, .int .i64 0, .string ⟨#[48]⟩] 41)).ownsRow w.heap.size 41 5 (.slice (some ⟨w.heap.size, 0, none⟩) 3 3) 3 (inscells (specH d)) :=
  World.ownsRow_lit w (inscells (specH d)).toArray 3 (Nat.le_refl _) (by decide) rfl

/-- What Spec hands back where it may. -/
def SpecOk (w : World) (d : ByteArray) (l : List Ins) (e : Ending) (w' : World) : Prop := ∃ v', e = .returned (.tuple #[v', .int .i64 0]) ∧ InsRow w' w'.heap.size v' (specL d l) ∧ Below w.heap.size w w'
def SpecBad (w : World) (er : Int) (e : Ending) (w' : World) : Prop := e = .returned (.tuple #[.slice none 0 0, .int .i64 er]) ∧ Below w.heap.size w w'

set_option maxHeartbeats 2000000 in
theorem spec_any (v : Value) (l : List Ins) (d : ByteArray) (hds : d.size ≤ 140737488355328) (w : World) (hl : InsRow w w.heap.size v l) (hv : validB l = true) (hd : isTree d = true) :
    Calls Try.prog 44 #[v, .string d] w (fun e w' => if validB (specL d l) = true then SpecOk w d l e w' else SpecBad w 3 e w') := by
  have kv := codeValidP_at v l w hl _ hv
  have kt := treeValid_at d hds _ hd
  have hwf : ∀ x ∈ specL d l, x.wf := fun x hx => by rcases List.mem_append.1 hx with h | h; exact specH_wf d hds x h; exact hl.1 x h
  have hn4 := validB_len hv
  have hcells : inscells (specL d l) = inscells (specH d) ++ inscells l := by simp [specL, inscells]
  have hlen := specL_length d l
  have HC := Lib.hid hcells
  have HWF := Lib.hid hwf
  have HLEN := Lib.hid hlen
  have hl0 := hl
  obtain ⟨n, hn'⟩ : ∃ n, l.length = n := ⟨_, rfl⟩
  obtain ⟨ao, cap, rfl⟩ := hl.len
  rw [hn'] at hl0 kv hn4 ⊢
  have HN := Lib.hid hn'
  have hone := inscells_one l
  have HONE := Lib.hid hone
  clear hv hd hwf hcells hlen hl hn' hone
  obtain ⟨bb, hbb⟩ : ∃ b, validB (specL d l) = b := ⟨_, rfl⟩
  rw [hbb]
  have HBB := Lib.hid hbb
  clear hbb
  go_enter Try.func44, Try.ntmps44
  go_wp2_with fail
  refine kv.mono ?_
  rintro e w1 ⟨rfl, k1⟩
  go_wp2_with fail
  refine (kt _).mono ?_
  rintro e w2 ⟨rfl, k2⟩
  have hb2 := k1.trans (k2.mono k1.size)
  have hl2 := (hl0.below hb2).mono hb2.size
  have hown := specH_own w2 d
  have hb3 := hb2.alloc hb2.size (.cells #[.int .i64 0, .int .i64 1, .int .i64 0, .int .i64 0, .string d, .int .i64 2, .int .i64 0, .int .i64 1, .int .i64 0, .string ⟨#[]⟩, .int .i64 0, .int .i64 1, .int .i64 0, .int .i64 0, .string ⟨#[48]⟩] 41)
  have hs2 : Src (w2.alloc (.cells #[.int .i64 0, .int .i64 1, .int .i64 0, .int .i64 0, .string d, .int .i64 2, .int .i64 0, .int .i64 1, .int .i64 0, .string ⟨#[]⟩, .int .i64 0, .int .i64 1, .int .i64 0, .int .i64 0, .string ⟨#[48]⟩] 41)) (.slice ao n cap) n 5 (inscells l) := by
    have := (hl0.below hb3).src
    rwa [HN.out] at this
  have hsz := hb2.size
  clear kv kt k1 k2 hb2 hl2 hl0
  go_wp2_with (at_builtin; refine app_src el_ins (vx := .slice ao n cap) rfl _ _ rfl rfl hown rfl hs2 HONE.out ?c2 ?c3 (by simp) hb3 hsz ?_)
  case c2 => omega
  case c3 => unfold maxLen; omega
  intro v' w3 hown3 hb4 hg
  have hrow : InsRow w3 w3.heap.size v' (specL d l) := InsRow.of_own (n := 3 + n) (by rw [HC.out]; exact hown3) HWF.out (by rw [HLEN.out, HN.out]; omega)
  have kv2 := codeValidP_at v' _ w3 hrow _ HBB.out
  have HROW := Lib.hid hrow
  obtain ⟨a2, c2, rfl⟩ := own_len hown3
  clear hown hs2 hb3 hown3 hg hrow
  cases bb with
  | true =>
    go_wp2_with fail
    refine kv2.mono ?_
    rintro e w4 ⟨rfl, k4⟩
    clear kv2
    go_wp2
    go_ret2
    exact ⟨_, rfl, (HROW.out.below k4).mono k4.size, hb4.trans (k4.mono hb4.size)⟩
  | false =>
    go_wp2_with fail
    refine kv2.mono ?_
    rintro e w4 ⟨rfl, k4⟩
    clear kv2
    go_wp2
    go_ret2
    exact ⟨rfl, hb4.trans (k4.mono hb4.size)⟩

end Go.Proofs.Ytlaeljkjdfffjaa

namespace Go.Proofs.Ytlaeljkjdfffjaa
open Go.RowKit

def knowR (q : List Ins) : List Ins := behindL ++ q
def codeN (l : List Ins) : Nat := (codeLs l).length + 1
def knowL (q : List Ins) : List Ins := specL (codeOf (knowR q)) (knowR q)
/-- The error of Know. -/
def knowE (q : List Ins) : Int := if validB q = false then 1 else if validB (knowR q) = true ∧ codeN (knowR q) ≤ 2000000 ∧ validB (knowL q) = true ∧ codeN (knowL q) ≤ 2000000 then 0 else 3
theorem code_fine (v : Value) (l : List Ins) (w : World) (hl : InsRow w w.heap.size v l) (hv : validB l = true) (hz : codeN l ≤ 2000000) :
    Calls Try.prog 43 #[v] w fun e w' => e = .returned (.tuple #[.string (codeOf l), .int .i64 0]) ∧ Below w.heap.size w w' := code_at v l _ w hl hv rfl hz
theorem code_large (v : Value) (l : List Ins) (w : World) (hl : InsRow w w.heap.size v l) (hv : validB l = true) (hz : ¬ codeN l ≤ 2000000) :
    Calls Try.prog 43 #[v] w fun e w' => e = .returned (.tuple #[.string ⟨#[]⟩, .int .i64 3]) ∧ Below w.heap.size w w' := by
  have h := code_ok v l w hl hv
  rw [if_pos (by unfold codeN at hz; omega)] at h
  exact h
theorem spec_fine (v : Value) (l : List Ins) (d : ByteArray) (w : World) (hl : InsRow w w.heap.size v l) (hv : validB l = true) (hd : isTree d = true) (h : validB (specL d l) = true) :
    Calls Try.prog 44 #[v, .string d] w fun e w' => ∃ v', e = .returned (.tuple #[v', .int .i64 0]) ∧ InsRow w' w'.heap.size v' (specL d l) ∧ Below w.heap.size w w' := by
  obtain ⟨t, ht, hs⟩ := isTree_get hd
  have hds : d.size ≤ 140737488355328 := by rw [ht, TS_size]; omega
  refine (spec_any v l d hds w hl hv hd).mono ?_
  intro e w' hh
  rw [if_pos h] at hh
  exact hh
theorem spec_large (v : Value) (l : List Ins) (d : ByteArray) (w : World) (hl : InsRow w w.heap.size v l) (hv : validB l = true) (hd : isTree d = true) (h : ¬ validB (specL d l) = true) :
    Calls Try.prog 44 #[v, .string d] w fun e w' => e = .returned (.tuple #[.slice none 0 0, .int .i64 3]) ∧ Below w.heap.size w w' := by
  obtain ⟨t, ht, hs⟩ := isTree_get hd
  have hds : d.size ≤ 140737488355328 := by rw [ht, TS_size]; omega
  refine (spec_any v l d hds w hl hv hd).mono ?_
  intro e w' hh
  rw [if_neg h] at hh
  exact hh
theorem knowE_bad {q : List Ins} (hv : validB q = true) (h : ¬ (validB (knowR q) = true ∧ codeN (knowR q) ≤ 2000000 ∧ validB (knowL q) = true ∧ codeN (knowL q) ≤ 2000000)) : knowE q = 3 := by
  unfold knowE; rw [if_neg (by rw [hv]; simp), if_neg h]
theorem tb_bad (w : World) (B : Nat) (d : Int) (hd : d ≠ 0) (m : List Ins) : TB w B d m (.slice none 0 0) := ⟨fun e => absurd e hd, fun _ => rfl⟩
def KnowOut (w : World) (q : List Ins) (e : Ending) (w' : World) : Prop := ∃ v, e = .returned (.tuple #[v, .int .i64 (knowE q)]) ∧ TB w' w'.heap.size (knowE q) (knowL q) v ∧ Below w.heap.size w w'
theorem KnowOut.bad {w w' : World} {q : List Ins} {e : Ending} (d : Int) (hd : d ≠ 0) (hk : knowE q = d) (he : e = .returned (.tuple #[.slice none 0 0, .int .i64 d])) (hb : Below w.heap.size w w') : KnowOut w q e w' := ⟨_, by rw [hk]; exact he, by rw [hk]; exact tb_bad _ _ _ hd _, hb⟩
theorem KnowOut.ok {w w' : World} {q : List Ins} {e : Ending} {v : Value} (hk : knowE q = 0) (he : e = .returned (.tuple #[v, .int .i64 0])) (hr : InsRow w' w'.heap.size v (knowL q)) (hb : Below w.heap.size w w') : KnowOut w q e w' := ⟨v, by rw [hk]; exact he, by rw [hk]; exact ⟨fun _ => hr, fun e => absurd rfl e⟩, hb⟩

set_option maxRecDepth 20000 in
set_option maxHeartbeats 4000000 in
theorem know_form (qa : Option Addr) (qn qc : Nat) (q : List Ins) (w : World) (hhQ : InsRow w w.heap.size (.slice qa qn qc) q) (HV : Hid (validB q = false)) :
    Calls Try.prog 117 #[.slice qa qn qc] w (KnowOut w q) := by
  have hQ := Lib.hid hhQ
  clear hhQ
  have ch := Lib.hid (Below.refl w.heap.size w)
  have kv := codeValidP_at _ q w hQ.out _ HV.out
  go_enter Try.func117, Try.ntmps117
  go_wp2_with fail
  refine (kv).mono ?_
  rintro e w1 ⟨rfl, hq⟩
  have hQ := Lib.hid ((hQ.out.below hq).mono hq.size)
  have ch := Lib.hid (ch.out.trans (hq.mono ch.out.size))
  clear hq
  clear kv
  go_wp2
  refine bodyPost_ret (v := .tuple #[.slice none 0 0, .int .i64 1]) (by simp [results, Try.results117, go_sem]) rfl ?_
  exact KnowOut.bad 1 (by decide) (by unfold knowE; rw [if_pos HV.out]) rfl ch.out

set_option maxRecDepth 20000 in
set_option maxHeartbeats 4000000 in
theorem know_join (qa : Option Addr) (qn qc : Nat) (q : List Ins) (w : World) (hhQ : InsRow w w.heap.size (.slice qa qn qc) q) (HV : Hid (validB q = true)) (HR : Hid (validB (knowR q) = false)) :
    Calls Try.prog 117 #[.slice qa qn qc] w (KnowOut w q) := by
  have hQ := Lib.hid hhQ
  clear hhQ
  have ch := Lib.hid (Below.refl w.heap.size w)
  have kv := codeValidP_at _ q w hQ.out _ HV.out
  go_enter Try.func117, Try.ntmps117
  go_wp2_with fail
  refine (kv).mono ?_
  rintro e w1 ⟨rfl, hq⟩
  have hQ := Lib.hid ((hQ.out.below hq).mono hq.size)
  have ch := Lib.hid (ch.out.trans (hq.mono ch.out.size))
  clear hq
  clear kv
  go_wp2_with fail
  refine (before_any _).mono ?_
  rintro e w2 ⟨ba, bc, rfl, hB, hq⟩
  have hQ := Lib.hid ((hQ.out.below hq).mono hq.size)
  have ch := Lib.hid (ch.out.trans (hq.mono ch.out.size))
  clear hq
  have hB := Lib.hid hB
  go_wp2_with fail
  have hL0 := ProgsRow.lit (w := w2) [.slice ba 16 bc, .slice qa qn qc] [behindL, q] rfl (by simp) (fun j u l hu hl => match j, u, l, hu, hl with | 0, _, _, hu, hl => by cases hu; cases hl; exact hB.out | 1, _, _, hu, hl => by cases hu; cases hl; exact hQ.out)
  obtain ⟨w3, hW⟩ : ∃ B, w2.alloc (.cells #[.slice ba 16 bc, .slice qa qn qc] 23) = B := ⟨_, rfl⟩
  rw [hW]
  have hq : Below w2.heap.size w2 w3 := by rw [← hW]; exact (Below.refl _ _).alloc (Nat.le_refl _) _
  have hL := Lib.hid (show ProgsRow w3 w3.heap.size (.slice (some ⟨w2.heap.size, 0, none⟩) 2 2) [behindL, q] by rw [← hW]; exact hL0)
  clear hW hL0
  have hQ := Lib.hid ((hQ.out.below hq).mono hq.size)
  have hB := Lib.hid ((hB.out.below hq).mono hq.size)
  have ch := Lib.hid (ch.out.trans (hq.mono ch.out.size))
  clear hq
  have hq4 := validB_len HV.out
  have kj := join_any _ [behindL, q] _ hL.out (by simp [lenS, behindL, beforeL, clearL_length]; omega)
  rw [show ([behindL, q] : List (List Ins)).flatten = knowR q by simp [knowR], HR.out] at kj
  obtain ⟨N, hN⟩ : ∃ N, lenS [behindL, q] = N := ⟨_, rfl⟩
  rw [hN] at kj
  clear hN hq4
  refine (kj).mono ?_
  rintro e w4 ⟨ja, jc, rfl, hJ, hq⟩
  have hQ := Lib.hid ((hQ.out.below hq).mono hq.size)
  have hB := Lib.hid ((hB.out.below hq).mono hq.size)
  have hL := Lib.hid ((hL.out.below hq).mono hq.size)
  have ch := Lib.hid (ch.out.trans (hq.mono ch.out.size))
  clear hq
  have hJ := Lib.hid hJ
  clear kj hL hB
  go_wp2
  refine bodyPost_ret (v := .tuple #[.slice none 0 0, .int .i64 3]) (by simp [results, Try.results117, go_sem]) rfl ?_
  exact KnowOut.bad 3 (by decide) (knowE_bad HV.out (fun h => by rw [HR.out] at h; cases h.1)) rfl ch.out

set_option maxRecDepth 20000 in
set_option maxHeartbeats 4000000 in
theorem know_code (qa : Option Addr) (qn qc : Nat) (q : List Ins) (w : World) (hhQ : InsRow w w.heap.size (.slice qa qn qc) q) (HV : Hid (validB q = true)) (HR : Hid (validB (knowR q) = true)) (HC : Hid (¬ codeN (knowR q) ≤ 2000000)) :
    Calls Try.prog 117 #[.slice qa qn qc] w (KnowOut w q) := by
  have hQ := Lib.hid hhQ
  clear hhQ
  have ch := Lib.hid (Below.refl w.heap.size w)
  have kv := codeValidP_at _ q w hQ.out _ HV.out
  go_enter Try.func117, Try.ntmps117
  go_wp2_with fail
  refine (kv).mono ?_
  rintro e w1 ⟨rfl, hq⟩
  have hQ := Lib.hid ((hQ.out.below hq).mono hq.size)
  have ch := Lib.hid (ch.out.trans (hq.mono ch.out.size))
  clear hq
  clear kv
  go_wp2_with fail
  refine (before_any _).mono ?_
  rintro e w2 ⟨ba, bc, rfl, hB, hq⟩
  have hQ := Lib.hid ((hQ.out.below hq).mono hq.size)
  have ch := Lib.hid (ch.out.trans (hq.mono ch.out.size))
  clear hq
  have hB := Lib.hid hB
  go_wp2_with fail
  have hL0 := ProgsRow.lit (w := w2) [.slice ba 16 bc, .slice qa qn qc] [behindL, q] rfl (by simp) (fun j u l hu hl => match j, u, l, hu, hl with | 0, _, _, hu, hl => by cases hu; cases hl; exact hB.out | 1, _, _, hu, hl => by cases hu; cases hl; exact hQ.out)
  obtain ⟨w3, hW⟩ : ∃ B, w2.alloc (.cells #[.slice ba 16 bc, .slice qa qn qc] 23) = B := ⟨_, rfl⟩
  rw [hW]
  have hq : Below w2.heap.size w2 w3 := by rw [← hW]; exact (Below.refl _ _).alloc (Nat.le_refl _) _
  have hL := Lib.hid (show ProgsRow w3 w3.heap.size (.slice (some ⟨w2.heap.size, 0, none⟩) 2 2) [behindL, q] by rw [← hW]; exact hL0)
  clear hW hL0
  have hQ := Lib.hid ((hQ.out.below hq).mono hq.size)
  have hB := Lib.hid ((hB.out.below hq).mono hq.size)
  have ch := Lib.hid (ch.out.trans (hq.mono ch.out.size))
  clear hq
  have hq4 := validB_len HV.out
  have kj := join_any _ [behindL, q] _ hL.out (by simp [lenS, behindL, beforeL, clearL_length]; omega)
  rw [show ([behindL, q] : List (List Ins)).flatten = knowR q by simp [knowR], HR.out] at kj
  obtain ⟨N, hN⟩ : ∃ N, lenS [behindL, q] = N := ⟨_, rfl⟩
  rw [hN] at kj
  clear hN hq4
  refine (kj).mono ?_
  rintro e w4 ⟨ja, jc, rfl, hJ, hq⟩
  have hQ := Lib.hid ((hQ.out.below hq).mono hq.size)
  have hB := Lib.hid ((hB.out.below hq).mono hq.size)
  have hL := Lib.hid ((hL.out.below hq).mono hq.size)
  have ch := Lib.hid (ch.out.trans (hq.mono ch.out.size))
  clear hq
  have hJ := Lib.hid hJ
  clear kj hL hB
  go_wp2_with fail
  refine (code_large _ (knowR q) _ hJ.out HR.out HC.out).mono ?_
  rintro e w5 ⟨rfl, hq⟩
  have hQ := Lib.hid ((hQ.out.below hq).mono hq.size)
  have hJ := Lib.hid ((hJ.out.below hq).mono hq.size)
  have ch := Lib.hid (ch.out.trans (hq.mono ch.out.size))
  clear hq
  go_wp2
  refine bodyPost_ret (v := .tuple #[.slice none 0 0, .int .i64 3]) (by simp [results, Try.results117, go_sem]) rfl ?_
  exact KnowOut.bad 3 (by decide) (knowE_bad HV.out (fun h => HC.out h.2.1)) rfl ch.out

set_option maxRecDepth 20000 in
set_option maxHeartbeats 4000000 in
theorem know_spec (qa : Option Addr) (qn qc : Nat) (q : List Ins) (w : World) (hhQ : InsRow w w.heap.size (.slice qa qn qc) q) (HV : Hid (validB q = true)) (HR : Hid (validB (knowR q) = true)) (HC : Hid (codeN (knowR q) ≤ 2000000)) (HS : Hid (¬ validB (specL (codeOf (knowR q)) (knowR q)) = true)) :
    Calls Try.prog 117 #[.slice qa qn qc] w (KnowOut w q) := by
  have hQ := Lib.hid hhQ
  clear hhQ
  have ch := Lib.hid (Below.refl w.heap.size w)
  have kv := codeValidP_at _ q w hQ.out _ HV.out
  go_enter Try.func117, Try.ntmps117
  go_wp2_with fail
  refine (kv).mono ?_
  rintro e w1 ⟨rfl, hq⟩
  have hQ := Lib.hid ((hQ.out.below hq).mono hq.size)
  have ch := Lib.hid (ch.out.trans (hq.mono ch.out.size))
  clear hq
  clear kv
  go_wp2_with fail
  refine (before_any _).mono ?_
  rintro e w2 ⟨ba, bc, rfl, hB, hq⟩
  have hQ := Lib.hid ((hQ.out.below hq).mono hq.size)
  have ch := Lib.hid (ch.out.trans (hq.mono ch.out.size))
  clear hq
  have hB := Lib.hid hB
  go_wp2_with fail
  have hL0 := ProgsRow.lit (w := w2) [.slice ba 16 bc, .slice qa qn qc] [behindL, q] rfl (by simp) (fun j u l hu hl => match j, u, l, hu, hl with | 0, _, _, hu, hl => by cases hu; cases hl; exact hB.out | 1, _, _, hu, hl => by cases hu; cases hl; exact hQ.out)
  obtain ⟨w3, hW⟩ : ∃ B, w2.alloc (.cells #[.slice ba 16 bc, .slice qa qn qc] 23) = B := ⟨_, rfl⟩
  rw [hW]
  have hq : Below w2.heap.size w2 w3 := by rw [← hW]; exact (Below.refl _ _).alloc (Nat.le_refl _) _
  have hL := Lib.hid (show ProgsRow w3 w3.heap.size (.slice (some ⟨w2.heap.size, 0, none⟩) 2 2) [behindL, q] by rw [← hW]; exact hL0)
  clear hW hL0
  have hQ := Lib.hid ((hQ.out.below hq).mono hq.size)
  have hB := Lib.hid ((hB.out.below hq).mono hq.size)
  have ch := Lib.hid (ch.out.trans (hq.mono ch.out.size))
  clear hq
  have hq4 := validB_len HV.out
  have kj := join_any _ [behindL, q] _ hL.out (by simp [lenS, behindL, beforeL, clearL_length]; omega)
  rw [show ([behindL, q] : List (List Ins)).flatten = knowR q by simp [knowR], HR.out] at kj
  obtain ⟨N, hN⟩ : ∃ N, lenS [behindL, q] = N := ⟨_, rfl⟩
  rw [hN] at kj
  clear hN hq4
  refine (kj).mono ?_
  rintro e w4 ⟨ja, jc, rfl, hJ, hq⟩
  have hQ := Lib.hid ((hQ.out.below hq).mono hq.size)
  have hB := Lib.hid ((hB.out.below hq).mono hq.size)
  have hL := Lib.hid ((hL.out.below hq).mono hq.size)
  have ch := Lib.hid (ch.out.trans (hq.mono ch.out.size))
  clear hq
  have hJ := Lib.hid hJ
  clear kj hL hB
  go_wp2_with fail
  refine (code_fine _ (knowR q) _ hJ.out HR.out HC.out).mono ?_
  rintro e w5 ⟨rfl, hq⟩
  have hQ := Lib.hid ((hQ.out.below hq).mono hq.size)
  have hJ := Lib.hid ((hJ.out.below hq).mono hq.size)
  have ch := Lib.hid (ch.out.trans (hq.mono ch.out.size))
  clear hq
  have htree := codeOf_tree (validB_all HR.out) HC.out
  go_wp2_with fail
  refine (spec_large _ (knowR q) (codeOf (knowR q)) _ hJ.out HR.out htree HS.out).mono ?_
  rintro e w6 ⟨rfl, hq⟩
  have hQ := Lib.hid ((hQ.out.below hq).mono hq.size)
  have hJ := Lib.hid ((hJ.out.below hq).mono hq.size)
  have ch := Lib.hid (ch.out.trans (hq.mono ch.out.size))
  clear hq
  go_wp2
  refine bodyPost_ret (v := .tuple #[.slice none 0 0, .int .i64 3]) (by simp [results, Try.results117, go_sem]) rfl ?_
  exact KnowOut.bad 3 (by decide) (knowE_bad HV.out (fun h => HS.out h.2.2.1)) rfl ch.out

set_option maxRecDepth 20000 in
set_option maxHeartbeats 4000000 in
theorem know_last (qa : Option Addr) (qn qc : Nat) (q : List Ins) (w : World) (hhQ : InsRow w w.heap.size (.slice qa qn qc) q) (HV : Hid (validB q = true)) (HR : Hid (validB (knowR q) = true)) (HC : Hid (codeN (knowR q) ≤ 2000000)) (HS : Hid (validB (specL (codeOf (knowR q)) (knowR q)) = true)) (HD : Hid (¬ codeN (knowL q) ≤ 2000000)) :
    Calls Try.prog 117 #[.slice qa qn qc] w (KnowOut w q) := by
  have hQ := Lib.hid hhQ
  clear hhQ
  have ch := Lib.hid (Below.refl w.heap.size w)
  have kv := codeValidP_at _ q w hQ.out _ HV.out
  go_enter Try.func117, Try.ntmps117
  go_wp2_with fail
  refine (kv).mono ?_
  rintro e w1 ⟨rfl, hq⟩
  have hQ := Lib.hid ((hQ.out.below hq).mono hq.size)
  have ch := Lib.hid (ch.out.trans (hq.mono ch.out.size))
  clear hq
  clear kv
  go_wp2_with fail
  refine (before_any _).mono ?_
  rintro e w2 ⟨ba, bc, rfl, hB, hq⟩
  have hQ := Lib.hid ((hQ.out.below hq).mono hq.size)
  have ch := Lib.hid (ch.out.trans (hq.mono ch.out.size))
  clear hq
  have hB := Lib.hid hB
  go_wp2_with fail
  have hL0 := ProgsRow.lit (w := w2) [.slice ba 16 bc, .slice qa qn qc] [behindL, q] rfl (by simp) (fun j u l hu hl => match j, u, l, hu, hl with | 0, _, _, hu, hl => by cases hu; cases hl; exact hB.out | 1, _, _, hu, hl => by cases hu; cases hl; exact hQ.out)
  obtain ⟨w3, hW⟩ : ∃ B, w2.alloc (.cells #[.slice ba 16 bc, .slice qa qn qc] 23) = B := ⟨_, rfl⟩
  rw [hW]
  have hq : Below w2.heap.size w2 w3 := by rw [← hW]; exact (Below.refl _ _).alloc (Nat.le_refl _) _
  have hL := Lib.hid (show ProgsRow w3 w3.heap.size (.slice (some ⟨w2.heap.size, 0, none⟩) 2 2) [behindL, q] by rw [← hW]; exact hL0)
  clear hW hL0
  have hQ := Lib.hid ((hQ.out.below hq).mono hq.size)
  have hB := Lib.hid ((hB.out.below hq).mono hq.size)
  have ch := Lib.hid (ch.out.trans (hq.mono ch.out.size))
  clear hq
  have hq4 := validB_len HV.out
  have kj := join_any _ [behindL, q] _ hL.out (by simp [lenS, behindL, beforeL, clearL_length]; omega)
  rw [show ([behindL, q] : List (List Ins)).flatten = knowR q by simp [knowR], HR.out] at kj
  obtain ⟨N, hN⟩ : ∃ N, lenS [behindL, q] = N := ⟨_, rfl⟩
  rw [hN] at kj
  clear hN hq4
  refine (kj).mono ?_
  rintro e w4 ⟨ja, jc, rfl, hJ, hq⟩
  have hQ := Lib.hid ((hQ.out.below hq).mono hq.size)
  have hB := Lib.hid ((hB.out.below hq).mono hq.size)
  have hL := Lib.hid ((hL.out.below hq).mono hq.size)
  have ch := Lib.hid (ch.out.trans (hq.mono ch.out.size))
  clear hq
  have hJ := Lib.hid hJ
  clear kj hL hB
  go_wp2_with fail
  refine (code_fine _ (knowR q) _ hJ.out HR.out HC.out).mono ?_
  rintro e w5 ⟨rfl, hq⟩
  have hQ := Lib.hid ((hQ.out.below hq).mono hq.size)
  have hJ := Lib.hid ((hJ.out.below hq).mono hq.size)
  have ch := Lib.hid (ch.out.trans (hq.mono ch.out.size))
  clear hq
  have htree := codeOf_tree (validB_all HR.out) HC.out
  go_wp2_with fail
  refine (spec_fine _ (knowR q) (codeOf (knowR q)) _ hJ.out HR.out htree HS.out).mono ?_
  rintro e w6 ⟨vs, rfl, hS, hq⟩
  have hQ := Lib.hid ((hQ.out.below hq).mono hq.size)
  have hJ := Lib.hid ((hJ.out.below hq).mono hq.size)
  have ch := Lib.hid (ch.out.trans (hq.mono ch.out.size))
  clear hq
  have hS := Lib.hid hS
  go_wp2_with fail
  refine (code_large _ (knowL q) _ hS.out HS.out HD.out).mono ?_
  rintro e w7 ⟨rfl, hq⟩
  have hQ := Lib.hid ((hQ.out.below hq).mono hq.size)
  have hJ := Lib.hid ((hJ.out.below hq).mono hq.size)
  have hS := Lib.hid ((hS.out.below hq).mono hq.size)
  have ch := Lib.hid (ch.out.trans (hq.mono ch.out.size))
  clear hq
  go_wp2
  refine bodyPost_ret (v := .tuple #[.slice none 0 0, .int .i64 3]) (by simp [results, Try.results117, go_sem]) rfl ?_
  exact KnowOut.bad 3 (by decide) (knowE_bad HV.out (fun h => HD.out h.2.2.2)) rfl ch.out

set_option maxRecDepth 20000 in
set_option maxHeartbeats 4000000 in
theorem know_ok (qa : Option Addr) (qn qc : Nat) (q : List Ins) (w : World) (hhQ : InsRow w w.heap.size (.slice qa qn qc) q) (HV : Hid (validB q = true)) (HR : Hid (validB (knowR q) = true)) (HC : Hid (codeN (knowR q) ≤ 2000000)) (HS : Hid (validB (specL (codeOf (knowR q)) (knowR q)) = true)) (HD : Hid (codeN (knowL q) ≤ 2000000)) :
    Calls Try.prog 117 #[.slice qa qn qc] w (KnowOut w q) := by
  have hQ := Lib.hid hhQ
  clear hhQ
  have ch := Lib.hid (Below.refl w.heap.size w)
  have kv := codeValidP_at _ q w hQ.out _ HV.out
  go_enter Try.func117, Try.ntmps117
  go_wp2_with fail
  refine (kv).mono ?_
  rintro e w1 ⟨rfl, hq⟩
  have hQ := Lib.hid ((hQ.out.below hq).mono hq.size)
  have ch := Lib.hid (ch.out.trans (hq.mono ch.out.size))
  clear hq
  clear kv
  go_wp2_with fail
  refine (before_any _).mono ?_
  rintro e w2 ⟨ba, bc, rfl, hB, hq⟩
  have hQ := Lib.hid ((hQ.out.below hq).mono hq.size)
  have ch := Lib.hid (ch.out.trans (hq.mono ch.out.size))
  clear hq
  have hB := Lib.hid hB
  go_wp2_with fail
  have hL0 := ProgsRow.lit (w := w2) [.slice ba 16 bc, .slice qa qn qc] [behindL, q] rfl (by simp) (fun j u l hu hl => match j, u, l, hu, hl with | 0, _, _, hu, hl => by cases hu; cases hl; exact hB.out | 1, _, _, hu, hl => by cases hu; cases hl; exact hQ.out)
  obtain ⟨w3, hW⟩ : ∃ B, w2.alloc (.cells #[.slice ba 16 bc, .slice qa qn qc] 23) = B := ⟨_, rfl⟩
  rw [hW]
  have hq : Below w2.heap.size w2 w3 := by rw [← hW]; exact (Below.refl _ _).alloc (Nat.le_refl _) _
  have hL := Lib.hid (show ProgsRow w3 w3.heap.size (.slice (some ⟨w2.heap.size, 0, none⟩) 2 2) [behindL, q] by rw [← hW]; exact hL0)
  clear hW hL0
  have hQ := Lib.hid ((hQ.out.below hq).mono hq.size)
  have hB := Lib.hid ((hB.out.below hq).mono hq.size)
  have ch := Lib.hid (ch.out.trans (hq.mono ch.out.size))
  clear hq
  have hq4 := validB_len HV.out
  have kj := join_any _ [behindL, q] _ hL.out (by simp [lenS, behindL, beforeL, clearL_length]; omega)
  rw [show ([behindL, q] : List (List Ins)).flatten = knowR q by simp [knowR], HR.out] at kj
  obtain ⟨N, hN⟩ : ∃ N, lenS [behindL, q] = N := ⟨_, rfl⟩
  rw [hN] at kj
  clear hN hq4
  refine (kj).mono ?_
  rintro e w4 ⟨ja, jc, rfl, hJ, hq⟩
  have hQ := Lib.hid ((hQ.out.below hq).mono hq.size)
  have hB := Lib.hid ((hB.out.below hq).mono hq.size)
  have hL := Lib.hid ((hL.out.below hq).mono hq.size)
  have ch := Lib.hid (ch.out.trans (hq.mono ch.out.size))
  clear hq
  have hJ := Lib.hid hJ
  clear kj hL hB
  go_wp2_with fail
  refine (code_fine _ (knowR q) _ hJ.out HR.out HC.out).mono ?_
  rintro e w5 ⟨rfl, hq⟩
  have hQ := Lib.hid ((hQ.out.below hq).mono hq.size)
  have hJ := Lib.hid ((hJ.out.below hq).mono hq.size)
  have ch := Lib.hid (ch.out.trans (hq.mono ch.out.size))
  clear hq
  have htree := codeOf_tree (validB_all HR.out) HC.out
  go_wp2_with fail
  refine (spec_fine _ (knowR q) (codeOf (knowR q)) _ hJ.out HR.out htree HS.out).mono ?_
  rintro e w6 ⟨vs, rfl, hS, hq⟩
  have hQ := Lib.hid ((hQ.out.below hq).mono hq.size)
  have hJ := Lib.hid ((hJ.out.below hq).mono hq.size)
  have ch := Lib.hid (ch.out.trans (hq.mono ch.out.size))
  clear hq
  have hS := Lib.hid hS
  go_wp2_with fail
  refine (code_fine _ (knowL q) _ hS.out HS.out HD.out).mono ?_
  rintro e w7 ⟨rfl, hq⟩
  have hQ := Lib.hid ((hQ.out.below hq).mono hq.size)
  have hJ := Lib.hid ((hJ.out.below hq).mono hq.size)
  have hS := Lib.hid ((hS.out.below hq).mono hq.size)
  have ch := Lib.hid (ch.out.trans (hq.mono ch.out.size))
  clear hq
  go_wp2
  refine bodyPost_ret (v := .tuple #[vs, .int .i64 0]) (by simp [results, Try.results117, go_sem]) rfl ?_
  exact KnowOut.ok (by unfold knowE; rw [if_neg (by rw [HV.out]; simp), if_pos ⟨HR.out, HC.out, HS.out, HD.out⟩]) rfl hS.out ch.out

theorem know_any (v : Value) (q : List Ins) (w : World) (hq : InsRow w w.heap.size v q) : Calls Try.prog 117 #[v] w (KnowOut w q) := by
  obtain ⟨qa, qc, rfl⟩ := hq.len
  cases h1 : validB q with
  | false => exact know_form _ _ _ q w hq (Lib.hid h1)
  | true =>
    cases h2 : validB (knowR q) with
    | false => exact know_join _ _ _ q w hq (Lib.hid h1) (Lib.hid h2)
    | true =>
      by_cases h3 : codeN (knowR q) ≤ 2000000
      · by_cases h4 : validB (specL (codeOf (knowR q)) (knowR q)) = true
        · by_cases h5 : codeN (knowL q) ≤ 2000000
          · exact know_ok _ _ _ q w hq (Lib.hid h1) (Lib.hid h2) (Lib.hid h3) (Lib.hid h4) (Lib.hid h5)
          · exact know_last _ _ _ q w hq (Lib.hid h1) (Lib.hid h2) (Lib.hid h3) (Lib.hid h4) (Lib.hid h5)
        · exact know_spec _ _ _ q w hq (Lib.hid h1) (Lib.hid h2) (Lib.hid h3) (Lib.hid h4)
      · exact know_code _ _ _ q w hq (Lib.hid h1) (Lib.hid h2) (Lib.hid h3)

end Go.Proofs.Ytlaeljkjdfffjaa

namespace Go.Proofs.Ytlaeljkjdfffjaa
open Go.RowKit

theorem rnum_at (i : Int) (n : Nat) (hi : i = n) (h : n ≤ 100000) (w0 w : World) (hb : Below w0.heap.size w0 w) : Calls Try.prog 101 #[.int .i64 i] w fun e w' => e = .returned (.string (TS (.num n))) ∧ Below w0.heap.size w0 w' := by
  subst hi
  exact (refNumber_ok n (by omega) w).mono fun e w' h => ⟨h.1, hb.trans (h.2.mono hb.size)⟩
theorem rpair_any (t u : Tr) (hs : t.size + u.size ≤ 100000000) (a b : ByteArray) (ha : TS t = a) (hb : TS u = b) (w : World) : Calls Try.prog 126 #[.string a, .string b] w fun e w' => e = .returned (.string (TS (.pair t u))) ∧ w = w' := by
  have hp : TS (.pair t u) = ⟨#[49]⟩ ++ a ++ b := by rw [← ha, ← hb]; apply ByteArray.ext; simp [TS, Tr.enc]
  have h1 : a.size = t.size := by rw [← ha, TS_size]
  have h2 : b.size = u.size := by rw [← hb, TS_size]
  have h3 : a.size + b.size ≤ 100000000 := by omega
  rw [hp]
  clear hp ha hb h1 h2 hs
  have A0 := fun w => run_string_add_sum (P := Try.prog) (w := w) (⟨#[49]⟩) a (by have : (⟨#[49]⟩ : ByteArray).size = 1 := rfl; omega)
  have A1 := fun w => run_string_add_sum (P := Try.prog) (w := w) (⟨#[49]⟩ ++ a) b (by rw [ByteArray.size_append]; have : (⟨#[49]⟩ : ByteArray).size = 1 := rfl; omega)
  go_enter Try.func126, Try.ntmps126
  go_wp2
  go_ret
  exact ⟨rfl, rfl⟩
theorem rpair_at (t u : Tr) (hs : t.size + u.size ≤ 100000000) (a b : ByteArray) (ha : TS t = a) (hb : TS u = b) (w0 w : World) (hw : Below w0.heap.size w0 w) : Calls Try.prog 126 #[.string a, .string b] w fun e w' => e = .returned (.string (TS (.pair t u))) ∧ Below w0.heap.size w0 w' :=
  (rpair_any t u hs a b ha hb w).mono fun e w' h => ⟨h.1, by rw [← h.2]; exact hw⟩
theorem nsz (n : Nat) : (Tr.num n).size = 2 * n + 1 := size_num n

set_option maxRecDepth 20000 in
set_option maxHeartbeats 4000000 in
theorem cof_set (b : Int) (c : Int) (t : ByteArray) (i : Nat) (zi : i ≤ 50000) (u : Tr) (hu : TS u = t) (hus : u.size ≤ 2000000) (w : World) : Calls Try.prog 89 #[.agg #[.int .i64 0, .int .i64 ((i : Int)), .int .i64 (b), .int .i64 (c), .string t]] w fun e w' => e = .returned (.string (TS (.pair (.num 0) (.pair (.num i) u)))) ∧ Below w.heap.size w w' := by
  have hb0 := Lib.hid ((Below.refl w.heap.size w).alloc (Nat.le_refl _) (.cells #[.int .i64 0, .int .i64 ((i : Int)), .int .i64 (b), .int .i64 (c), .string t] 41))
  have hblk := heap_alloc_new w (.cells #[.int .i64 0, .int .i64 ((i : Int)), .int .i64 (b), .int .i64 (c), .string t] 41)
  obtain ⟨w1, hW⟩ : ∃ B, w.alloc (.cells #[.int .i64 0, .int .i64 ((i : Int)), .int .i64 (b), .int .i64 (c), .string t] 41) = B := ⟨_, rfl⟩
  have hsz : w1.heap.size = w.heap.size + 1 := by rw [← hW]; simp
  rw [hW] at hb0 hblk
  have cc := (block_cells hblk).1
  have KK := Lib.hid (fun (w' : World) (hb : Below w1.heap.size w1 w') => (show w'.cell? ⟨w.heap.size, 0, none⟩ = some (.int .i64 0) ∧ w'.cell? ⟨w.heap.size, 1, none⟩ = some (.int .i64 ((i : Int))) ∧ w'.cell? ⟨w.heap.size, 2, none⟩ = some (.int .i64 (b)) ∧ w'.cell? ⟨w.heap.size, 3, none⟩ = some (.int .i64 (c)) ∧ w'.cell? ⟨w.heap.size, 4, none⟩ = some (.string t) from
    have hl : w.heap.size < w1.heap.size := by omega
    ⟨(hb.cell (p := ⟨w.heap.size, 0, none⟩) hl).trans (cc 0), (hb.cell (p := ⟨w.heap.size, 1, none⟩) hl).trans (cc 1), (hb.cell (p := ⟨w.heap.size, 2, none⟩) hl).trans (cc 2), (hb.cell (p := ⟨w.heap.size, 3, none⟩) hl).trans (cc 3), (hb.cell (p := ⟨w.heap.size, 4, none⟩) hl).trans (cc 4)⟩))
  have hq := Lib.hid (Below.refl w1.heap.size w1)
  obtain ⟨c0, c1, c2, c3, c4⟩ := KK.out w1 (Below.refl _ _)
  clear hblk cc hsz
  go_enter Try.func89, Try.ntmps89
  go_wp2_with fail
  refine (rnum_at ((i : Int)) i (by first | rfl | omega | exact IntWalk.i64_in _ (by omega)) (by omega) w1 _ hq.out).mono ?_
  rintro e w2 ⟨rfl, hb2⟩
  have hq := Lib.hid hb2
  obtain ⟨c0, c1, c2, c3, c4⟩ := KK.out w2 hb2
  clear hb2
  go_wp2_with fail
  refine (rpair_at (.num i) (u) (by simp [nsz]; omega) _ _ (rfl) (hu) w1 _ hq.out).mono ?_
  rintro e w3 ⟨rfl, hb3⟩
  have hq := Lib.hid hb3
  obtain ⟨c0, c1, c2, c3, c4⟩ := KK.out w3 hb3
  clear hb3
  go_wp2_with fail
  refine (rnum_at (0) 0 (by first | rfl | omega | exact IntWalk.i64_in _ (by omega)) (by omega) w1 _ hq.out).mono ?_
  rintro e w4 ⟨rfl, hb4⟩
  have hq := Lib.hid hb4
  obtain ⟨c0, c1, c2, c3, c4⟩ := KK.out w4 hb4
  clear hb4
  go_wp2_with fail
  refine (rpair_at (.num 0) (.pair (.num i) u) (by simp [nsz, Tr.size]; omega) _ _ (rfl) (rfl) w1 _ hq.out).mono ?_
  rintro e w5 ⟨rfl, hb5⟩
  have hq := Lib.hid hb5
  obtain ⟨c0, c1, c2, c3, c4⟩ := KK.out w5 hb5
  clear hb5
  go_wp2
  go_ret
  exact ⟨rfl, hb0.out.trans (hq.out.mono hb0.out.size)⟩

set_option maxRecDepth 20000 in
set_option maxHeartbeats 4000000 in
theorem cof_r1 (c : Int) (t : ByteArray) (i : Nat) (zi : i ≤ 50000) (j : Nat) (zj : j ≤ 50000)  (w : World) : Calls Try.prog 89 #[.agg #[.int .i64 1, .int .i64 ((i : Int)), .int .i64 ((j : Int)), .int .i64 (c), .string t]] w fun e w' => e = .returned (.string (TS (.pair (.num 1) (.pair (.num i) (.num j))))) ∧ Below w.heap.size w w' := by
  have hb0 := Lib.hid ((Below.refl w.heap.size w).alloc (Nat.le_refl _) (.cells #[.int .i64 1, .int .i64 ((i : Int)), .int .i64 ((j : Int)), .int .i64 (c), .string t] 41))
  have hblk := heap_alloc_new w (.cells #[.int .i64 1, .int .i64 ((i : Int)), .int .i64 ((j : Int)), .int .i64 (c), .string t] 41)
  obtain ⟨w1, hW⟩ : ∃ B, w.alloc (.cells #[.int .i64 1, .int .i64 ((i : Int)), .int .i64 ((j : Int)), .int .i64 (c), .string t] 41) = B := ⟨_, rfl⟩
  have hsz : w1.heap.size = w.heap.size + 1 := by rw [← hW]; simp
  rw [hW] at hb0 hblk
  have cc := (block_cells hblk).1
  have KK := Lib.hid (fun (w' : World) (hb : Below w1.heap.size w1 w') => (show w'.cell? ⟨w.heap.size, 0, none⟩ = some (.int .i64 1) ∧ w'.cell? ⟨w.heap.size, 1, none⟩ = some (.int .i64 ((i : Int))) ∧ w'.cell? ⟨w.heap.size, 2, none⟩ = some (.int .i64 ((j : Int))) ∧ w'.cell? ⟨w.heap.size, 3, none⟩ = some (.int .i64 (c)) ∧ w'.cell? ⟨w.heap.size, 4, none⟩ = some (.string t) from
    have hl : w.heap.size < w1.heap.size := by omega
    ⟨(hb.cell (p := ⟨w.heap.size, 0, none⟩) hl).trans (cc 0), (hb.cell (p := ⟨w.heap.size, 1, none⟩) hl).trans (cc 1), (hb.cell (p := ⟨w.heap.size, 2, none⟩) hl).trans (cc 2), (hb.cell (p := ⟨w.heap.size, 3, none⟩) hl).trans (cc 3), (hb.cell (p := ⟨w.heap.size, 4, none⟩) hl).trans (cc 4)⟩))
  have hq := Lib.hid (Below.refl w1.heap.size w1)
  obtain ⟨c0, c1, c2, c3, c4⟩ := KK.out w1 (Below.refl _ _)
  clear hblk cc hsz
  go_enter Try.func89, Try.ntmps89
  go_wp2_with fail
  refine (rnum_at ((i : Int)) i (by first | rfl | omega | exact IntWalk.i64_in _ (by omega)) (by omega) w1 _ hq.out).mono ?_
  rintro e w2 ⟨rfl, hb2⟩
  have hq := Lib.hid hb2
  obtain ⟨c0, c1, c2, c3, c4⟩ := KK.out w2 hb2
  clear hb2
  go_wp2_with fail
  refine (rnum_at ((j : Int)) j (by first | rfl | omega | exact IntWalk.i64_in _ (by omega)) (by omega) w1 _ hq.out).mono ?_
  rintro e w3 ⟨rfl, hb3⟩
  have hq := Lib.hid hb3
  obtain ⟨c0, c1, c2, c3, c4⟩ := KK.out w3 hb3
  clear hb3
  go_wp2_with fail
  refine (rpair_at (.num i) (.num j) (by simp [nsz]; omega) _ _ (rfl) (rfl) w1 _ hq.out).mono ?_
  rintro e w4 ⟨rfl, hb4⟩
  have hq := Lib.hid hb4
  obtain ⟨c0, c1, c2, c3, c4⟩ := KK.out w4 hb4
  clear hb4
  go_wp2_with fail
  refine (rnum_at (1) 1 (by first | rfl | omega | exact IntWalk.i64_in _ (by omega)) (by omega) w1 _ hq.out).mono ?_
  rintro e w5 ⟨rfl, hb5⟩
  have hq := Lib.hid hb5
  obtain ⟨c0, c1, c2, c3, c4⟩ := KK.out w5 hb5
  clear hb5
  go_wp2_with fail
  refine (rpair_at (.num 1) (.pair (.num i) (.num j)) (by simp [nsz, Tr.size]; omega) _ _ (rfl) (rfl) w1 _ hq.out).mono ?_
  rintro e w6 ⟨rfl, hb6⟩
  have hq := Lib.hid hb6
  obtain ⟨c0, c1, c2, c3, c4⟩ := KK.out w6 hb6
  clear hb6
  go_wp2
  go_ret
  exact ⟨rfl, hb0.out.trans (hq.out.mono hb0.out.size)⟩

set_option maxRecDepth 20000 in
set_option maxHeartbeats 4000000 in
theorem cof_r3 (c : Int) (t : ByteArray) (i : Nat) (zi : i ≤ 50000) (j : Nat) (zj : j ≤ 50000)  (w : World) : Calls Try.prog 89 #[.agg #[.int .i64 3, .int .i64 ((i : Int)), .int .i64 ((j : Int)), .int .i64 (c), .string t]] w fun e w' => e = .returned (.string (TS (.pair (.num 3) (.pair (.num i) (.num j))))) ∧ Below w.heap.size w w' := by
  have hb0 := Lib.hid ((Below.refl w.heap.size w).alloc (Nat.le_refl _) (.cells #[.int .i64 3, .int .i64 ((i : Int)), .int .i64 ((j : Int)), .int .i64 (c), .string t] 41))
  have hblk := heap_alloc_new w (.cells #[.int .i64 3, .int .i64 ((i : Int)), .int .i64 ((j : Int)), .int .i64 (c), .string t] 41)
  obtain ⟨w1, hW⟩ : ∃ B, w.alloc (.cells #[.int .i64 3, .int .i64 ((i : Int)), .int .i64 ((j : Int)), .int .i64 (c), .string t] 41) = B := ⟨_, rfl⟩
  have hsz : w1.heap.size = w.heap.size + 1 := by rw [← hW]; simp
  rw [hW] at hb0 hblk
  have cc := (block_cells hblk).1
  have KK := Lib.hid (fun (w' : World) (hb : Below w1.heap.size w1 w') => (show w'.cell? ⟨w.heap.size, 0, none⟩ = some (.int .i64 3) ∧ w'.cell? ⟨w.heap.size, 1, none⟩ = some (.int .i64 ((i : Int))) ∧ w'.cell? ⟨w.heap.size, 2, none⟩ = some (.int .i64 ((j : Int))) ∧ w'.cell? ⟨w.heap.size, 3, none⟩ = some (.int .i64 (c)) ∧ w'.cell? ⟨w.heap.size, 4, none⟩ = some (.string t) from
    have hl : w.heap.size < w1.heap.size := by omega
    ⟨(hb.cell (p := ⟨w.heap.size, 0, none⟩) hl).trans (cc 0), (hb.cell (p := ⟨w.heap.size, 1, none⟩) hl).trans (cc 1), (hb.cell (p := ⟨w.heap.size, 2, none⟩) hl).trans (cc 2), (hb.cell (p := ⟨w.heap.size, 3, none⟩) hl).trans (cc 3), (hb.cell (p := ⟨w.heap.size, 4, none⟩) hl).trans (cc 4)⟩))
  have hq := Lib.hid (Below.refl w1.heap.size w1)
  obtain ⟨c0, c1, c2, c3, c4⟩ := KK.out w1 (Below.refl _ _)
  clear hblk cc hsz
  go_enter Try.func89, Try.ntmps89
  go_wp2_with fail
  refine (rnum_at ((i : Int)) i (by first | rfl | omega | exact IntWalk.i64_in _ (by omega)) (by omega) w1 _ hq.out).mono ?_
  rintro e w2 ⟨rfl, hb2⟩
  have hq := Lib.hid hb2
  obtain ⟨c0, c1, c2, c3, c4⟩ := KK.out w2 hb2
  clear hb2
  go_wp2_with fail
  refine (rnum_at ((j : Int)) j (by first | rfl | omega | exact IntWalk.i64_in _ (by omega)) (by omega) w1 _ hq.out).mono ?_
  rintro e w3 ⟨rfl, hb3⟩
  have hq := Lib.hid hb3
  obtain ⟨c0, c1, c2, c3, c4⟩ := KK.out w3 hb3
  clear hb3
  go_wp2_with fail
  refine (rpair_at (.num i) (.num j) (by simp [nsz]; omega) _ _ (rfl) (rfl) w1 _ hq.out).mono ?_
  rintro e w4 ⟨rfl, hb4⟩
  have hq := Lib.hid hb4
  obtain ⟨c0, c1, c2, c3, c4⟩ := KK.out w4 hb4
  clear hb4
  go_wp2_with fail
  refine (rnum_at (3) 3 (by first | rfl | omega | exact IntWalk.i64_in _ (by omega)) (by omega) w1 _ hq.out).mono ?_
  rintro e w5 ⟨rfl, hb5⟩
  have hq := Lib.hid hb5
  obtain ⟨c0, c1, c2, c3, c4⟩ := KK.out w5 hb5
  clear hb5
  go_wp2_with fail
  refine (rpair_at (.num 3) (.pair (.num i) (.num j)) (by simp [nsz, Tr.size]; omega) _ _ (rfl) (rfl) w1 _ hq.out).mono ?_
  rintro e w6 ⟨rfl, hb6⟩
  have hq := Lib.hid hb6
  obtain ⟨c0, c1, c2, c3, c4⟩ := KK.out w6 hb6
  clear hb6
  go_wp2
  go_ret
  exact ⟨rfl, hb0.out.trans (hq.out.mono hb0.out.size)⟩

set_option maxRecDepth 20000 in
set_option maxHeartbeats 4000000 in
theorem cof_r4 (c : Int) (t : ByteArray) (i : Nat) (zi : i ≤ 50000) (j : Nat) (zj : j ≤ 50000)  (w : World) : Calls Try.prog 89 #[.agg #[.int .i64 4, .int .i64 ((i : Int)), .int .i64 ((j : Int)), .int .i64 (c), .string t]] w fun e w' => e = .returned (.string (TS (.pair (.num 4) (.pair (.num i) (.num j))))) ∧ Below w.heap.size w w' := by
  have hb0 := Lib.hid ((Below.refl w.heap.size w).alloc (Nat.le_refl _) (.cells #[.int .i64 4, .int .i64 ((i : Int)), .int .i64 ((j : Int)), .int .i64 (c), .string t] 41))
  have hblk := heap_alloc_new w (.cells #[.int .i64 4, .int .i64 ((i : Int)), .int .i64 ((j : Int)), .int .i64 (c), .string t] 41)
  obtain ⟨w1, hW⟩ : ∃ B, w.alloc (.cells #[.int .i64 4, .int .i64 ((i : Int)), .int .i64 ((j : Int)), .int .i64 (c), .string t] 41) = B := ⟨_, rfl⟩
  have hsz : w1.heap.size = w.heap.size + 1 := by rw [← hW]; simp
  rw [hW] at hb0 hblk
  have cc := (block_cells hblk).1
  have KK := Lib.hid (fun (w' : World) (hb : Below w1.heap.size w1 w') => (show w'.cell? ⟨w.heap.size, 0, none⟩ = some (.int .i64 4) ∧ w'.cell? ⟨w.heap.size, 1, none⟩ = some (.int .i64 ((i : Int))) ∧ w'.cell? ⟨w.heap.size, 2, none⟩ = some (.int .i64 ((j : Int))) ∧ w'.cell? ⟨w.heap.size, 3, none⟩ = some (.int .i64 (c)) ∧ w'.cell? ⟨w.heap.size, 4, none⟩ = some (.string t) from
    have hl : w.heap.size < w1.heap.size := by omega
    ⟨(hb.cell (p := ⟨w.heap.size, 0, none⟩) hl).trans (cc 0), (hb.cell (p := ⟨w.heap.size, 1, none⟩) hl).trans (cc 1), (hb.cell (p := ⟨w.heap.size, 2, none⟩) hl).trans (cc 2), (hb.cell (p := ⟨w.heap.size, 3, none⟩) hl).trans (cc 3), (hb.cell (p := ⟨w.heap.size, 4, none⟩) hl).trans (cc 4)⟩))
  have hq := Lib.hid (Below.refl w1.heap.size w1)
  obtain ⟨c0, c1, c2, c3, c4⟩ := KK.out w1 (Below.refl _ _)
  clear hblk cc hsz
  go_enter Try.func89, Try.ntmps89
  go_wp2_with fail
  refine (rnum_at ((i : Int)) i (by first | rfl | omega | exact IntWalk.i64_in _ (by omega)) (by omega) w1 _ hq.out).mono ?_
  rintro e w2 ⟨rfl, hb2⟩
  have hq := Lib.hid hb2
  obtain ⟨c0, c1, c2, c3, c4⟩ := KK.out w2 hb2
  clear hb2
  go_wp2_with fail
  refine (rnum_at ((j : Int)) j (by first | rfl | omega | exact IntWalk.i64_in _ (by omega)) (by omega) w1 _ hq.out).mono ?_
  rintro e w3 ⟨rfl, hb3⟩
  have hq := Lib.hid hb3
  obtain ⟨c0, c1, c2, c3, c4⟩ := KK.out w3 hb3
  clear hb3
  go_wp2_with fail
  refine (rpair_at (.num i) (.num j) (by simp [nsz]; omega) _ _ (rfl) (rfl) w1 _ hq.out).mono ?_
  rintro e w4 ⟨rfl, hb4⟩
  have hq := Lib.hid hb4
  obtain ⟨c0, c1, c2, c3, c4⟩ := KK.out w4 hb4
  clear hb4
  go_wp2_with fail
  refine (rnum_at (4) 4 (by first | rfl | omega | exact IntWalk.i64_in _ (by omega)) (by omega) w1 _ hq.out).mono ?_
  rintro e w5 ⟨rfl, hb5⟩
  have hq := Lib.hid hb5
  obtain ⟨c0, c1, c2, c3, c4⟩ := KK.out w5 hb5
  clear hb5
  go_wp2_with fail
  refine (rpair_at (.num 4) (.pair (.num i) (.num j)) (by simp [nsz, Tr.size]; omega) _ _ (rfl) (rfl) w1 _ hq.out).mono ?_
  rintro e w6 ⟨rfl, hb6⟩
  have hq := Lib.hid hb6
  obtain ⟨c0, c1, c2, c3, c4⟩ := KK.out w6 hb6
  clear hb6
  go_wp2
  go_ret
  exact ⟨rfl, hb0.out.trans (hq.out.mono hb0.out.size)⟩

set_option maxRecDepth 20000 in
set_option maxHeartbeats 4000000 in
theorem cof_cons (t : ByteArray) (i : Nat) (zi : i ≤ 50000) (j : Nat) (zj : j ≤ 50000) (k : Nat) (zk : k ≤ 50000)  (w : World) : Calls Try.prog 89 #[.agg #[.int .i64 2, .int .i64 ((i : Int)), .int .i64 ((j : Int)), .int .i64 ((k : Int)), .string t]] w fun e w' => e = .returned (.string (TS (.pair (.num 2) (.pair (.num i) (.pair (.num j) (.num k)))))) ∧ Below w.heap.size w w' := by
  have hb0 := Lib.hid ((Below.refl w.heap.size w).alloc (Nat.le_refl _) (.cells #[.int .i64 2, .int .i64 ((i : Int)), .int .i64 ((j : Int)), .int .i64 ((k : Int)), .string t] 41))
  have hblk := heap_alloc_new w (.cells #[.int .i64 2, .int .i64 ((i : Int)), .int .i64 ((j : Int)), .int .i64 ((k : Int)), .string t] 41)
  obtain ⟨w1, hW⟩ : ∃ B, w.alloc (.cells #[.int .i64 2, .int .i64 ((i : Int)), .int .i64 ((j : Int)), .int .i64 ((k : Int)), .string t] 41) = B := ⟨_, rfl⟩
  have hsz : w1.heap.size = w.heap.size + 1 := by rw [← hW]; simp
  rw [hW] at hb0 hblk
  have cc := (block_cells hblk).1
  have KK := Lib.hid (fun (w' : World) (hb : Below w1.heap.size w1 w') => (show w'.cell? ⟨w.heap.size, 0, none⟩ = some (.int .i64 2) ∧ w'.cell? ⟨w.heap.size, 1, none⟩ = some (.int .i64 ((i : Int))) ∧ w'.cell? ⟨w.heap.size, 2, none⟩ = some (.int .i64 ((j : Int))) ∧ w'.cell? ⟨w.heap.size, 3, none⟩ = some (.int .i64 ((k : Int))) ∧ w'.cell? ⟨w.heap.size, 4, none⟩ = some (.string t) from
    have hl : w.heap.size < w1.heap.size := by omega
    ⟨(hb.cell (p := ⟨w.heap.size, 0, none⟩) hl).trans (cc 0), (hb.cell (p := ⟨w.heap.size, 1, none⟩) hl).trans (cc 1), (hb.cell (p := ⟨w.heap.size, 2, none⟩) hl).trans (cc 2), (hb.cell (p := ⟨w.heap.size, 3, none⟩) hl).trans (cc 3), (hb.cell (p := ⟨w.heap.size, 4, none⟩) hl).trans (cc 4)⟩))
  have hq := Lib.hid (Below.refl w1.heap.size w1)
  obtain ⟨c0, c1, c2, c3, c4⟩ := KK.out w1 (Below.refl _ _)
  clear hblk cc hsz
  go_enter Try.func89, Try.ntmps89
  go_wp2_with fail
  refine (rnum_at ((i : Int)) i (by first | rfl | omega | exact IntWalk.i64_in _ (by omega)) (by omega) w1 _ hq.out).mono ?_
  rintro e w2 ⟨rfl, hb2⟩
  have hq := Lib.hid hb2
  obtain ⟨c0, c1, c2, c3, c4⟩ := KK.out w2 hb2
  clear hb2
  have hq0 := hq
  have Kj := Lib.hid (fun (w' : World) (hb : Below w2.heap.size w2 w') => rnum_at (j : Int) j rfl (by omega) w2 w' hb)
  have Kk := Lib.hid (fun (w' : World) (hb : Below w2.heap.size w2 w') => rnum_at (k : Int) k rfl (by omega) w2 w' hb)
  have Kp := Lib.hid (fun (w' : World) (hb : Below w2.heap.size w2 w') => rpair_at (.num j) (.num k) (by simp [nsz]; omega) _ _ rfl rfl w2 w' hb)
  have Kq := Lib.hid (fun (w' : World) (hb : Below w2.heap.size w2 w') => rpair_at (.num i) (.pair (.num j) (.num k)) (by simp [nsz, Tr.size]; omega) _ _ rfl rfl w2 w' hb)
  have KZ := Lib.hid (fun (w' : World) (hb : Below w2.heap.size w2 w') => KK.out w' (hq0.out.trans (hb.mono hq0.out.size)))
  go_wp2
  go_region_held3 (fun w' => w'.cell? ⟨w.heap.size, 0, none⟩ = some (.int .i64 2) ∧ w'.cell? ⟨w.heap.size, 1, none⟩ = some (.int .i64 (i : Int)) ∧ w'.cell? ⟨w.heap.size, 2, none⟩ = some (.int .i64 (j : Int)) ∧ w'.cell? ⟨w.heap.size, 3, none⟩ = some (.int .i64 (k : Int)) ∧ w'.cell? ⟨w.heap.size, 4, none⟩ = some (.string t))
    (with_reducible (first | exact KZ.out _ hb5 | exact KZ.out _ hb4 | exact KZ.out _ hb3 | exact KZ.out _ hb2 | exact KZ.out _ (Below.refl _ _) | exact KZ.out _ (Below.refl _ _).drew | fail "keep"))
    ((first | ((with_reducible refine (Kj.out _ (by first | exact Below.refl _ _ | exact hb5 | exact hb4 | exact hb3 | exact hb2 | exact (Below.refl _ _).drew | exact hb5.drew | exact hb4.drew | exact hb3.drew | exact hb2.drew)).mono ?_); rintro e v2 ⟨rfl, hb2⟩) | ((with_reducible refine (Kk.out _ (by first | exact Below.refl _ _ | exact hb5 | exact hb4 | exact hb3 | exact hb2 | exact (Below.refl _ _).drew | exact hb5.drew | exact hb4.drew | exact hb3.drew | exact hb2.drew)).mono ?_); rintro e v3 ⟨rfl, hb3⟩) | ((with_reducible refine (Kp.out _ (by first | exact Below.refl _ _ | exact hb5 | exact hb4 | exact hb3 | exact hb2 | exact (Below.refl _ _).drew | exact hb5.drew | exact hb4.drew | exact hb3.drew | exact hb2.drew)).mono ?_); rintro e v4 ⟨rfl, hb4⟩) | ((with_reducible refine (Kq.out _ (by first | exact Below.refl _ _ | exact hb5 | exact hb4 | exact hb3 | exact hb2 | exact (Below.refl _ _).drew | exact hb5.drew | exact hb4.drew | exact hb3.drew | exact hb2.drew)).mono ?_); rintro e v5 ⟨rfl, hb5⟩) | (fail "arm")))
  all_goals (
  have hq := Lib.hid (hq0.out.trans (hb5.mono hq0.out.size))
  obtain ⟨c0, c1, c2, c3, c4⟩ := KK.out _ hq.out
  go_wp2_with fail
  refine (rnum_at (2) 2 (by first | rfl | omega | exact IntWalk.i64_in _ (by omega)) (by omega) w1 _ hq.out).mono ?_
  rintro e w3 ⟨rfl, hb3⟩
  have hq := Lib.hid hb3
  obtain ⟨c0, c1, c2, c3, c4⟩ := KK.out w3 hb3
  clear hb3
  go_wp2_with fail
  refine (rpair_at (.num 2) (.pair (.num i) (.pair (.num j) (.num k))) (by simp [nsz, Tr.size]; omega) _ _ (rfl) (rfl) w1 _ hq.out).mono ?_
  rintro e w4 ⟨rfl, hb4⟩
  have hq := Lib.hid hb4
  obtain ⟨c0, c1, c2, c3, c4⟩ := KK.out w4 hb4
  clear hb4
  go_wp2
  go_ret
  exact ⟨rfl, hb0.out.trans (hq.out.mono hb0.out.size)⟩)

set_option maxRecDepth 20000 in
set_option maxHeartbeats 4000000 in
theorem cof_on (c : Int) (t : ByteArray) (i : Nat) (zi : i ≤ 50000) (j : Nat) (zj : j ≤ 50000)  (w : World) : Calls Try.prog 89 #[.agg #[.int .i64 5, .int .i64 ((i : Int)), .int .i64 ((j : Int)), .int .i64 (c), .string t]] w fun e w' => e = .returned (.string (TS (.pair (.num 5) (.pair (.num i) (.pair .nil (.num j)))))) ∧ Below w.heap.size w w' := by
  have hb0 := Lib.hid ((Below.refl w.heap.size w).alloc (Nat.le_refl _) (.cells #[.int .i64 5, .int .i64 ((i : Int)), .int .i64 ((j : Int)), .int .i64 (c), .string t] 41))
  have hblk := heap_alloc_new w (.cells #[.int .i64 5, .int .i64 ((i : Int)), .int .i64 ((j : Int)), .int .i64 (c), .string t] 41)
  obtain ⟨w1, hW⟩ : ∃ B, w.alloc (.cells #[.int .i64 5, .int .i64 ((i : Int)), .int .i64 ((j : Int)), .int .i64 (c), .string t] 41) = B := ⟨_, rfl⟩
  have hsz : w1.heap.size = w.heap.size + 1 := by rw [← hW]; simp
  rw [hW] at hb0 hblk
  have cc := (block_cells hblk).1
  have KK := Lib.hid (fun (w' : World) (hb : Below w1.heap.size w1 w') => (show w'.cell? ⟨w.heap.size, 0, none⟩ = some (.int .i64 5) ∧ w'.cell? ⟨w.heap.size, 1, none⟩ = some (.int .i64 ((i : Int))) ∧ w'.cell? ⟨w.heap.size, 2, none⟩ = some (.int .i64 ((j : Int))) ∧ w'.cell? ⟨w.heap.size, 3, none⟩ = some (.int .i64 (c)) ∧ w'.cell? ⟨w.heap.size, 4, none⟩ = some (.string t) from
    have hl : w.heap.size < w1.heap.size := by omega
    ⟨(hb.cell (p := ⟨w.heap.size, 0, none⟩) hl).trans (cc 0), (hb.cell (p := ⟨w.heap.size, 1, none⟩) hl).trans (cc 1), (hb.cell (p := ⟨w.heap.size, 2, none⟩) hl).trans (cc 2), (hb.cell (p := ⟨w.heap.size, 3, none⟩) hl).trans (cc 3), (hb.cell (p := ⟨w.heap.size, 4, none⟩) hl).trans (cc 4)⟩))
  have hq := Lib.hid (Below.refl w1.heap.size w1)
  obtain ⟨c0, c1, c2, c3, c4⟩ := KK.out w1 (Below.refl _ _)
  clear hblk cc hsz
  have hmx : max (j : Int) 0 = (j : Int) := by omega
  have hnn : ¬ (j : Int) < 0 := by omega
  go_enter Try.func89, Try.ntmps89
  go_wp2_with fail
  refine (rnum_at ((i : Int)) i (by first | rfl | omega | exact IntWalk.i64_in _ (by omega)) (by omega) w1 _ hq.out).mono ?_
  rintro e w2 ⟨rfl, hb2⟩
  have hq := Lib.hid hb2
  obtain ⟨c0, c1, c2, c3, c4⟩ := KK.out w2 hb2
  clear hb2
  go_wp2_with fail
  refine (rnum_at ((j : Int)) j (by first | rfl | omega | exact IntWalk.i64_in _ (by omega)) (by omega) w1 _ hq.out).mono ?_
  rintro e w3 ⟨rfl, hb3⟩
  have hq := Lib.hid hb3
  obtain ⟨c0, c1, c2, c3, c4⟩ := KK.out w3 hb3
  clear hb3
  go_wp2_with fail
  refine (rpair_at (.nil) (.num j) (by simp [nsz, Tr.size]; omega) _ _ (rfl) (rfl) w1 _ hq.out).mono ?_
  rintro e w4 ⟨rfl, hb4⟩
  have hq := Lib.hid hb4
  obtain ⟨c0, c1, c2, c3, c4⟩ := KK.out w4 hb4
  clear hb4
  go_wp2_with fail
  refine (rpair_at (.num i) (.pair .nil (.num j)) (by simp [nsz, Tr.size]; omega) _ _ (rfl) (rfl) w1 _ hq.out).mono ?_
  rintro e w5 ⟨rfl, hb5⟩
  have hq := Lib.hid hb5
  obtain ⟨c0, c1, c2, c3, c4⟩ := KK.out w5 hb5
  clear hb5
  go_wp2_with fail
  refine (rnum_at (5) 5 (by first | rfl | omega | exact IntWalk.i64_in _ (by omega)) (by omega) w1 _ hq.out).mono ?_
  rintro e w6 ⟨rfl, hb6⟩
  have hq := Lib.hid hb6
  obtain ⟨c0, c1, c2, c3, c4⟩ := KK.out w6 hb6
  clear hb6
  go_wp2_with fail
  refine (rpair_at (.num 5) (.pair (.num i) (.pair .nil (.num j))) (by simp [nsz, Tr.size]; omega) _ _ (rfl) (rfl) w1 _ hq.out).mono ?_
  rintro e w7 ⟨rfl, hb7⟩
  have hq := Lib.hid hb7
  obtain ⟨c0, c1, c2, c3, c4⟩ := KK.out w7 hb7
  clear hb7
  go_wp2
  go_ret
  exact ⟨rfl, hb0.out.trans (hq.out.mono hb0.out.size)⟩

set_option maxRecDepth 20000 in
set_option maxHeartbeats 4000000 in
theorem cof_back (c : Int) (t : ByteArray) (i : Nat) (zi : i ≤ 50000) (j : Nat) (zj : j ≤ 50000) (hj : 0 < j) (w : World) : Calls Try.prog 89 #[.agg #[.int .i64 5, .int .i64 ((i : Int)), .int .i64 (-(j : Int)), .int .i64 (c), .string t]] w fun e w' => e = .returned (.string (TS (.pair (.num 5) (.pair (.num i) (.pair (.pair .nil .nil) (.num j)))))) ∧ Below w.heap.size w w' := by
  have hb0 := Lib.hid ((Below.refl w.heap.size w).alloc (Nat.le_refl _) (.cells #[.int .i64 5, .int .i64 ((i : Int)), .int .i64 (-(j : Int)), .int .i64 (c), .string t] 41))
  have hblk := heap_alloc_new w (.cells #[.int .i64 5, .int .i64 ((i : Int)), .int .i64 (-(j : Int)), .int .i64 (c), .string t] 41)
  obtain ⟨w1, hW⟩ : ∃ B, w.alloc (.cells #[.int .i64 5, .int .i64 ((i : Int)), .int .i64 (-(j : Int)), .int .i64 (c), .string t] 41) = B := ⟨_, rfl⟩
  have hsz : w1.heap.size = w.heap.size + 1 := by rw [← hW]; simp
  rw [hW] at hb0 hblk
  have cc := (block_cells hblk).1
  have KK := Lib.hid (fun (w' : World) (hb : Below w1.heap.size w1 w') => (show w'.cell? ⟨w.heap.size, 0, none⟩ = some (.int .i64 5) ∧ w'.cell? ⟨w.heap.size, 1, none⟩ = some (.int .i64 ((i : Int))) ∧ w'.cell? ⟨w.heap.size, 2, none⟩ = some (.int .i64 (-(j : Int))) ∧ w'.cell? ⟨w.heap.size, 3, none⟩ = some (.int .i64 (c)) ∧ w'.cell? ⟨w.heap.size, 4, none⟩ = some (.string t) from
    have hl : w.heap.size < w1.heap.size := by omega
    ⟨(hb.cell (p := ⟨w.heap.size, 0, none⟩) hl).trans (cc 0), (hb.cell (p := ⟨w.heap.size, 1, none⟩) hl).trans (cc 1), (hb.cell (p := ⟨w.heap.size, 2, none⟩) hl).trans (cc 2), (hb.cell (p := ⟨w.heap.size, 3, none⟩) hl).trans (cc 3), (hb.cell (p := ⟨w.heap.size, 4, none⟩) hl).trans (cc 4)⟩))
  have hq := Lib.hid (Below.refl w1.heap.size w1)
  obtain ⟨c0, c1, c2, c3, c4⟩ := KK.out w1 (Below.refl _ _)
  clear hblk cc hsz
  have hmx : max (-(j : Int)) 0 = 0 := by omega
  have hnn : -(j : Int) < 0 := by omega
  go_enter Try.func89, Try.ntmps89
  go_wp2_with fail
  refine (rnum_at ((i : Int)) i (by first | rfl | omega | exact IntWalk.i64_in _ (by omega)) (by omega) w1 _ hq.out).mono ?_
  rintro e w2 ⟨rfl, hb2⟩
  have hq := Lib.hid hb2
  obtain ⟨c0, c1, c2, c3, c4⟩ := KK.out w2 hb2
  clear hb2
  go_wp2_with fail
  refine (rnum_at (0) 0 (by first | rfl | omega | exact IntWalk.i64_in _ (by omega)) (by omega) w1 _ hq.out).mono ?_
  rintro e w3 ⟨rfl, hb3⟩
  have hq := Lib.hid hb3
  obtain ⟨c0, c1, c2, c3, c4⟩ := KK.out w3 hb3
  clear hb3
  go_wp2_with fail
  refine (rpair_at (.nil) (.num 0) (by simp [nsz, Tr.size]) _ _ (rfl) (rfl) w1 _ hq.out).mono ?_
  rintro e w4 ⟨rfl, hb4⟩
  have hq := Lib.hid hb4
  obtain ⟨c0, c1, c2, c3, c4⟩ := KK.out w4 hb4
  clear hb4
  go_wp2_with fail
  refine (rpair_at (.num i) (.pair .nil (.num 0)) (by simp [nsz, Tr.size]; omega) _ _ (rfl) (rfl) w1 _ hq.out).mono ?_
  rintro e w5 ⟨rfl, hb5⟩
  have hq := Lib.hid hb5
  obtain ⟨c0, c1, c2, c3, c4⟩ := KK.out w5 hb5
  clear hb5
  go_wp2_with fail
  refine (rnum_at (_) j (by first | rfl | omega | exact IntWalk.i64_in _ (by omega)) (by omega) w1 _ hq.out).mono ?_
  rintro e w6 ⟨rfl, hb6⟩
  have hq := Lib.hid hb6
  obtain ⟨c0, c1, c2, c3, c4⟩ := KK.out w6 hb6
  clear hb6
  go_wp2_with fail
  refine (rpair_at (.pair .nil .nil) (.num j) (by simp [nsz, Tr.size]; omega) _ _ (rfl) (rfl) w1 _ hq.out).mono ?_
  rintro e w7 ⟨rfl, hb7⟩
  have hq := Lib.hid hb7
  obtain ⟨c0, c1, c2, c3, c4⟩ := KK.out w7 hb7
  clear hb7
  go_wp2_with fail
  refine (rpair_at (.num i) (.pair (.pair .nil .nil) (.num j)) (by simp [nsz, Tr.size]; omega) _ _ (rfl) (rfl) w1 _ hq.out).mono ?_
  rintro e w8 ⟨rfl, hb8⟩
  have hq := Lib.hid hb8
  obtain ⟨c0, c1, c2, c3, c4⟩ := KK.out w8 hb8
  clear hb8
  go_wp2_with fail
  refine (rnum_at (5) 5 (by first | rfl | omega | exact IntWalk.i64_in _ (by omega)) (by omega) w1 _ hq.out).mono ?_
  rintro e w9 ⟨rfl, hb9⟩
  have hq := Lib.hid hb9
  obtain ⟨c0, c1, c2, c3, c4⟩ := KK.out w9 hb9
  clear hb9
  go_wp2_with fail
  refine (rpair_at (.num 5) (.pair (.num i) (.pair (.pair .nil .nil) (.num j))) (by simp [nsz, Tr.size]; omega) _ _ (rfl) (rfl) w1 _ hq.out).mono ?_
  rintro e w10 ⟨rfl, hb10⟩
  have hq := Lib.hid hb10
  obtain ⟨c0, c1, c2, c3, c4⟩ := KK.out w10 hb10
  clear hb10
  go_wp2
  go_ret
  exact ⟨rfl, hb0.out.trans (hq.out.mono hb0.out.size)⟩

end Go.Proofs.Ytlaeljkjdfffjaa

namespace Go.Proofs.Ytlaeljkjdfffjaa
open Go.RowKit

theorem cof_any {x : Ins} {i n : Int} (hr : rightB x i n = true) (hi : 0 ≤ i ∧ i ≤ 4000 ∧ n ≤ 4000) (w : World) :
    Calls Try.prog 89 #[.agg #[.int .i64 x.op, .int .i64 x.a, .int .i64 x.b, .int .i64 x.c, .string x.tree]] w fun e w' => e = .returned (.string (TS (insT x))) ∧ Below w.heap.size w w' := by
  obtain ⟨a, ha, ha2, hbc⟩ := right_nats hr
  have hop := right_op hr
  have htr := hr
  obtain ⟨op, xa, b, c, t⟩ := x
  simp only at ha hop hbc
  subst ha
  rcases hop with rfl | rfl | rfl | rfl | rfl | rfl
  · have ht : isTree t = true := by
      unfold rightB at htr
      simp only [Bool.and_eq_true] at htr
      have h3 := htr.2
      simp at h3
      exact h3.2
    have := cof_set b c t a (by omega) (toTr t) (TS_toTr ht) (toTr_size t) w
    simpa [insT, bodyT] using this
  · obtain ⟨b', c', rfl, rfl, h1, h2⟩ := hbc (by decide)
    have := cof_r1 c' t a (by omega) b' (by omega) w
    simpa [insT, bodyT] using this
  · obtain ⟨b', c', rfl, rfl, h1, h2⟩ := hbc (by decide)
    have := cof_cons t a (by omega) b' (by omega) c' (by omega) w
    simpa [insT, bodyT] using this
  · obtain ⟨b', c', rfl, rfl, h1, h2⟩ := hbc (by decide)
    have := cof_r3 c' t a (by omega) b' (by omega) w
    simpa [insT, bodyT] using this
  · obtain ⟨b', c', rfl, rfl, h1, h2⟩ := hbc (by decide)
    have := cof_r4 c' t a (by omega) b' (by omega) w
    simpa [insT, bodyT] using this
  · have hj := right_jump hr rfl
    simp only at hj
    by_cases hneg : b < 0
    · obtain ⟨j, rfl⟩ : ∃ j : Nat, b = -(j : Int) := ⟨(-b).toNat, by omega⟩
      have := cof_back c t a (by omega) j (by omega) (by omega) w
      have h0 : 0 < j := by omega
      simpa [insT, bodyT, h0] using this
    · obtain ⟨j, rfl⟩ : ∃ j : Nat, b = (j : Int) := ⟨b.toNat, by omega⟩
      have := cof_on c t a (by omega) j (by omega) w
      have hn : ¬ ((j : Nat) : Int) < 0 := by omega
      simpa [insT, bodyT, hn] using this
theorem insT_size {x : Ins} {i n : Int} (hr : rightB x i n = true) (hi : 0 ≤ i ∧ i ≤ 4000 ∧ n ≤ 4000) : (TS (insT x)).size ≤ 4000020 := by
  obtain ⟨PF, _, _, _, h3, m, h4, h5⟩ := fields_put hr hi
  have h := ciL_size m h4 h5 h3
  have h1 : ciL x = 49 :: (insT x).enc := by
    unfold ciL insT
    show _ = 49 :: (49 :: ((Tr.num x.op.toNat).enc ++ (bodyT x).enc))
    rw [bodyT_enc hr, show (Tr.num x.op.toNat).enc = (TS (.num x.op.toNat)).data.toList from (TS_list _).symm]
    simp
  have h2 : (TS (insT x)).size = (insT x).enc.length := by rw [TS_size, Tr.enc_length]
  rw [h1, List.length_cons] at h
  omega
def codesL (l : List Ins) : List ByteArray := l.map fun x => TS (insT x)
theorem lwr_codes {l : List Ins} (h : ∀ x ∈ l, ∃ i n, rightB x i n = true) : lwr (codesL l) = codeLs l := by
  unfold lwr codesL codeLs
  rw [List.map_map]
  congr 1
  refine List.map_congr_left fun x hx => ?_
  obtain ⟨i, n, hr⟩ := h x hx
  show 49 :: (TS (insT x)).data.toList = ciL x
  unfold ciL insT
  rw [TS_list]
  show 49 :: (49 :: ((Tr.num x.op.toNat).enc ++ (bodyT x).enc)) = _
  rw [bodyT_enc hr, show (Tr.num x.op.toNat).enc = (TS (.num x.op.toNat)).data.toList from (TS_list _).symm]
  simp

theorem bodyB_size {x : Ins} {i n : Int} (hr : rightB x i n = true) (hi : 0 ≤ i ∧ i ≤ 4000 ∧ n ≤ 4000) : (bodyB x).size ≤ 8500 + x.tree.size := by
  obtain ⟨a, ha, ha2, hbc⟩ := right_nats hr
  have hs : ∀ a b : ByteArray, (a ++ b).size = a.size + b.size := fun a b => ByteArray.size_append
  have h1 : (⟨#[49]⟩ : ByteArray).size = 1 := rfl
  have h2 : (⟨#[49, 48]⟩ : ByteArray).size = 2 := rfl
  have h4 : (⟨#[49, 49, 48, 48]⟩ : ByteArray).size = 4 := rfl
  have hop := right_op hr
  unfold bodyB
  by_cases h0 : x.op = 0
  · rw [if_pos h0, hs, hs, num_size, h1]; omega
  · rw [if_neg h0]
    by_cases hc : x.op = 2
    · obtain ⟨b', c', hb', hc', _, _⟩ := hbc (by omega)
      rw [if_pos hc, hs, hs, hs, hs, num_size, num_size, num_size, h1]; omega
    · rw [if_neg hc]
      by_cases h5 : x.op = 5
      · have hj := right_jump hr h5
        rw [if_pos h5]
        split
        · rw [hs, hs, hs, num_size, num_size, h1, h4]; omega
        · rw [hs, hs, hs, num_size, num_size, h1, h2]; omega
      · obtain ⟨b', c', hb', hc', _, _⟩ := hbc h5
        rw [if_neg h5, hs, hs, num_size, num_size, h1]; omega
theorem codeLs_small (l : List Ins) (hv : validB l = true) : (codeLs l).length ≤ 40000000 := by
  have hl := validB_len hv
  have hx : ∀ x ∈ l, (ciL x).length ≤ 8600 + x.tree.size := by
    intro x hx
    obtain ⟨k, hk, rfl⟩ := List.getElem_of_mem hx
    have hr := rightAll_get (validB_all hv) (List.getElem?_eq_getElem hk)
    have h1 := bodyB_size hr ⟨Int.natCast_nonneg _, by omega, by omega⟩
    have hop := right_op hr
    unfold ciL
    have h2 : (⟨#[49, 49]⟩ ++ TS (.num l[k].op.toNat) : ByteArray).size = 2 + (2 * l[k].op.toNat + 1) := by rw [ByteArray.size_append, num_size]; rfl
    have h3 : ∀ s : ByteArray, s.data.toList.length = s.size := fun s => by simp
    rw [List.length_append, h3, h3, h2]; omega
  have : ∀ k : List Ins, (∀ x ∈ k, (ciL x).length ≤ 8600 + x.tree.size) → (codeLs k).length ≤ 8600 * k.length + trees k := by
    intro k
    induction k with
    | nil => intro _; simp [codeLs]
    | cons x k ih =>
      intro h
      have h1 := ih fun y hy => h y (List.mem_cons_of_mem _ hy)
      have h2 := h x (List.mem_cons_self)
      have h3 : codeLs (x :: k) = ciL x ++ codeLs k := by simp [codeLs]
      have h4 : trees (x :: k) = x.tree.size + trees k := by simp [trees]
      rw [h3, List.length_append, List.length_cons, h4]; omega
  have h5 := this l hx
  have h6 : trees l ≤ 2000000 := by
    unfold validB at hv
    simp only [Bool.and_eq_true, decide_eq_true_eq] at hv
    exact hv.1.2
  omega

set_option maxHeartbeats 4000000 in
theorem rcode_any (v : Value) (l : List Ins) (w : World) (hl : InsRow w w.heap.size v l) (hv : validB l = true) :
    Calls Try.prog 27 #[v] w fun e w' => e = .returned (.string (codeOf l)) ∧ Below w.heap.size w w' := by
  have hl4 := validB_len hv
  have hbd := codeLs_bound l hv
  obtain ⟨R, hR⟩ : ∃ R, codeOf l = R := ⟨_, rfl⟩
  rw [hR]
  have HR := Lib.hid hR
  obtain ⟨ao, cap, rfl⟩ := hl.len
  have hn5 := hl.2.1
  obtain ⟨n, hn'⟩ : ∃ n, l.length = n := ⟨_, rfl⟩
  rw [hn'] at hl hn5 hl4 ⊢
  have HN := Lib.hid hn'
  have HL := Lib.hid hl
  have HV := Lib.hid hv
  have HBD := Lib.hid hbd
  clear hn' hl hv hR hbd
  go_enter Try.func27, Try.ntmps27
  go_wp2
  go_loopg [3, 4] n (fun gg o i wr => ∃ k : Nat, k ≤ n ∧ gg = n - k ∧ i = .int .i64 k ∧ Hid (wr.ownsRow w.heap.size 9 1 o k ((codesL (l.take k)).map Value.string)) ∧ Hid (Below w.heap.size w wr))
  case atStart => exact ⟨0, Nat.zero_le _, rfl, rfl, World.ownsRow_nil _ _ _ _, Below.refl _ _⟩
  case round =>
    obtain ⟨k, hk, hg, rfl, hP, hb⟩ := hrel
    have HG := Lib.hid hg; clear hg
    by_cases hlt : k < n
    · obtain ⟨x, hx⟩ : ∃ s, l[k]? = some s := ⟨_, List.getElem?_eq_getElem (by rw [HN.out]; exact hlt)⟩
      have hr := rightAll_get (validB_all HV.out) hx
      obtain ⟨g, off, rfl, hg, c0, c1, c2, c3, c4⟩ := (HL.out.below hb.out).get hx
      have kc := fun w => cof_any hr ⟨Int.natCast_nonneg _, by omega, by rw [HN.out]; omega⟩ w
      have hstep := Lib.hid (show codesL (l.take (k + 1)) = codesL (l.take k) ++ [TS (insT x)] by rw [take_snoc' _ _ _ hx]; unfold codesL; simp)
      obtain ⟨S, hS⟩ : ∃ S, TS (insT x) = S := ⟨_, rfl⟩
      rw [hS] at kc hstep
      have hi0 : (0 : Int) ≤ (k : Int) := Int.natCast_nonneg _
      have hi1 : (k : Int) < (n : Int) := by omega
      clear hx hr hS
      go_wp2_with fail
      refine (kc _).mono ?_
      rintro e w1 ⟨rfl, hq⟩
      have hown := own_below hP.out hq
      have hb2 := hb.out.trans (hq.mono hb.out.size)
      have hsz := hb2.size
      clear kc hq c0 c1 c2 c3 c4 hP hb
      go_wp2_with (at_builtin; refine app_new el_str rfl _ _ rfl rfl hown [.string S] 1 rfl rfl ?c1 ?c2 ?c3 hsz hb2 (Nat.le_refl _) ?_)
      case c1 => intro u hu; simp at hu; subst hu; rfl
      case c2 => omega
      case c3 => unfold maxLen; omega
      intro v' w' hown' hb' _
      have hnew : Hid (w'.ownsRow w.heap.size 9 1 v' (k + 1) ((codesL (l.take (k + 1))).map Value.string)) := Lib.hid (by rw [hstep.out, List.map_append]; exact hown')
      have hb' := Lib.hid hb'
      clear hown hown' hb2 hsz
      go_wp2
      go_roundg (n - (k + 1))
      case measure => rw [HG.out]; omega
      case rel => exact ⟨k + 1, by omega, rfl, by go_num, hnew, hb'⟩
    · have hkn : k = n := by omega
      subst hkn
      rw [List.take_of_length_le (by rw [HN.out]; omega)] at hP
      obtain ⟨a2, c2, rfl⟩ := own_len hP.out
      have hall : ∀ y ∈ codesL l, y.size ≤ 4000020 := by
        intro y hy
        obtain ⟨x, hx, rfl⟩ := List.mem_map.1 hy
        obtain ⟨j, hj, rfl⟩ := List.getElem_of_mem hx
        exact insT_size (rightAll_get (validB_all HV.out) (List.getElem?_eq_getElem hj)) ⟨Int.natCast_nonneg _, by rw [HN.out] at hj; omega, by rw [HN.out]; omega⟩
      have hlen : (codesL l).length = k := by unfold codesL; rw [List.length_map, HN.out]
      have hrow : StrRow wr wr.heap.size (.slice a2 k c2) (codesL l) := StrRow.of_own (n := k) (e := 9) (base := w.heap.size) hP.out (fun y hy => by have := hall y hy; omega) (by rw [hlen]; omega)
      have kl := refList_any _ (codesL l) _ hrow (by rw [hlen]; omega) (by rw [lwr_codes (valid_rights (validB_all HV.out))]; have := codeLs_small l HV.out; omega)
      rw [lwr_codes (valid_rights (validB_all HV.out))] at kl
      have kl := Lib.hid kl
      clear hall hlen hrow hP
      go_wp2_with fail
      refine kl.out.mono ?_
      rintro e w1 ⟨rfl, hq⟩
      go_wp2
      go_ret
      exact ⟨by rw [← HR.out]; rfl, hb.out.trans (hq.mono hb.out.size)⟩

end Go.Proofs.Ytlaeljkjdfffjaa

namespace Go.Proofs.Ytlaeljkjdfffjaa
open Go.RowKit

end Go.Proofs.Ytlaeljkjdfffjaa


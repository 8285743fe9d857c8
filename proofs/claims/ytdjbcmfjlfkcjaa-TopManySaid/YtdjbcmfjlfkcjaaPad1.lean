/- copy of instructions; order.Pad, narcissusref10.Pad. -/
import Derived.Laws.CopyRow
import Derived.Test.YtdjbcmfjlfkcjaaMB2
import Derived.Test.YtdjbcmfjlfkcjaaMB3
import Derived.Test.YtdjbcmfjlfkcjaaMB1
namespace Go.Proofs.Ytdjbcmfjlfkcjaa
open Go.RowKit

theorem run_copy_ins {P : Program} (w : World) (ty g N cap : Nat) (a : Addr) (sLen sCap : Nat) (cur : Array Value) (cs : List Value) (E : ElemT P 23 75 (.agg #[.int .i64 0, .int .i64 0, .int .i64 0, .int .i64 0, .string ⟨#[]⟩]) 5 48)
    (hg : w.heap[g]? = some (.cells cur 75 (0, 0))) (hN : sLen ≤ N) (hn : cs.length = sLen * 5)
    (hsrc : ∀ j v, cs[j]? = some v → w.cell? (a.add j) = some v) (hfit : cs.length ≤ cur.size) (h1 : ∀ v ∈ cs, v.oneCell' = true) :
    (Builtin.copy_ #[23, 23] ty #[.slice (some ⟨g, 0, none⟩) N cap, .slice (some a) sLen sCap]).run P w = .ok (goInt sLen) (w.setRow g (cs ++ cur.toList.drop cs.length).toArray) := by
  have hl := run_loadCells_list (P := P) w a cs hsrc
  have hst := run_storeCells_at P g 0 75 cs 0 cur w hg (by omega) h1
  obtain ⟨i, hi, hz, hsize, hbytes⟩ := info_parts E.hi
  have hm : Nat.min sLen N = sLen := Nat.min_eq_left hN
  rw [hn] at hl
  simp only [Nat.zero_add, List.take_zero, List.nil_append] at hst
  simp [Builtin.copy_, run_underlying E.ht, Builtin.lenOf, Builtin.firstCells, sizeOf, typeInfo, hi, hsize, hm, hl, hst]
theorem run_copy_noins {P : Program} (w : World) (ty g N cap : Nat) (E : ElemT P 23 75 (.agg #[.int .i64 0, .int .i64 0, .int .i64 0, .int .i64 0, .string ⟨#[]⟩]) 5 48) :
    (Builtin.copy_ #[23, 23] ty #[.slice (some ⟨g, 0, none⟩) N cap, .slice none 0 0]).run P w = .ok (goInt 0) w := by
  obtain ⟨i, hi, hz, hsize, hbytes⟩ := info_parts E.hi
  simp [Builtin.copy_, run_underlying E.ht, Builtin.lenOf, Builtin.firstCells, sizeOf, typeInfo, hi, storeCells]
theorem copy_run {P : Program} (E : ElemT P 23 75 (.agg #[.int .i64 0, .int .i64 0, .int .i64 0, .int .i64 0, .string ⟨#[]⟩]) 5 48) {w w0 : World} (ty : Nat) {g N cap B L : Nat} {cur : Array Value} {vs : Value} {l : List Ins} (hL : l.length = L)
    (hsrc : Src w vs L 5 (inscells l)) (hg : w.heap[g]? = some (.cells cur 75 (0, 0))) (hN : L ≤ N) (hfit : L * 5 ≤ cur.size) (hb : Below B w0 w) (hBg : B ≤ g) :
    ∃ w' cs, (Builtin.copy_ #[23, 23] ty #[.slice (some ⟨g, 0, none⟩) N cap, vs]).run P w = .ok (.int .i64 L) w' ∧ Hid (w'.heap[g]? = some (.cells cs 75 (0, 0))) ∧ Hid (cs.size = cur.size) ∧ Hid (cs.toList.take (L * 5) = inscells l) ∧ Hid (Below B w0 w') := by
  subst hL
  rcases hsrc.2 with ⟨rfl, h0⟩ | ⟨ad, c, rfl, hc⟩
  · have hl0 : l = [] := List.length_eq_zero_iff.1 h0
    subst hl0
    exact ⟨w, cur, run_copy_noins w ty g N cap E, Lib.hid hg, Lib.hid rfl, Lib.hid (by simp [inscells]), Lib.hid hb⟩
  · have hlen := inscells_length l
    refine ⟨_, (inscells l ++ cur.toList.drop (inscells l).length).toArray, run_copy_ins w ty g N cap ad l.length c cur (inscells l) E hg hN hlen hc (by rw [hlen]; exact hfit) (inscells_one l), Lib.hid (setRow_heap w g _ _ _ _ hg), Lib.hid ?_, Lib.hid ?_, Lib.hid ?_⟩
    · simp [hlen]; omega
    · rw [← hlen]; simp
    · exact hb.trans ⟨rfl, rfl, rfl, by simp [World.setRow], fun k hk => setRow_other w g k _ (by omega)⟩
theorem put5 {cs : Array Value} {k : Nat} {l : List Ins} {op a b c : Value} {s : Value} {x : Ins} (hx : x.cells = [op, a, b, c, s]) (hl : l.length = k) (h : cs.toList.take (k * 5) = inscells l) (hk : (k + 1) * 5 ≤ cs.size) :
    (((((cs.setIfInBounds (k * 5) op).setIfInBounds (k * 5 + 1) a).setIfInBounds (k * 5 + 2) b).setIfInBounds (k * 5 + 3) c).setIfInBounds (k * 5 + 4) s).toList.take ((k + 1) * 5) = inscells (l ++ [x]) := by
  have h2 : inscells (l ++ [x]) = inscells l ++ [op, a, b, c, s] := by simp [inscells, hx]
  have hlen := inscells_length l
  rw [h2]
  apply List.ext_getElem?
  intro i
  rw [List.getElem?_take]
  by_cases hi : i < (k + 1) * 5
  · rw [if_pos hi, Array.getElem?_toList]
    simp only [Array.getElem?_setIfInBounds, Array.size_setIfInBounds]
    by_cases h1 : i < k * 5
    · rw [if_neg (by omega), if_neg (by omega), if_neg (by omega), if_neg (by omega), if_neg (by omega), List.getElem?_append_left (by omega), ← h, List.getElem?_take, if_pos h1, Array.getElem?_toList]
    · rw [List.getElem?_append_right (by omega), hlen, hl]
      have hr : i = k * 5 ∨ i = k * 5 + 1 ∨ i = k * 5 + 2 ∨ i = k * 5 + 3 ∨ i = k * 5 + 4 := by omega
      rcases hr with rfl | rfl | rfl | rfl | rfl
      · rw [if_neg (by omega), if_neg (by omega), if_neg (by omega), if_neg (by omega), if_pos rfl, if_pos (by omega), Nat.sub_self]; rfl
      · rw [if_neg (by omega), if_neg (by omega), if_neg (by omega), if_pos rfl, if_pos (by omega), Nat.add_sub_cancel_left]; rfl
      · rw [if_neg (by omega), if_neg (by omega), if_pos rfl, if_pos (by omega), Nat.add_sub_cancel_left]; rfl
      · rw [if_neg (by omega), if_pos rfl, if_pos (by omega), Nat.add_sub_cancel_left]; rfl
      · rw [if_pos rfl, if_pos (by omega), Nat.add_sub_cancel_left]; rfl
  · rw [if_neg hi]
    rw [List.getElem?_eq_none]
    simp [hlen, hl]
    omega
/-- A move of register 0 to itself. -/
def mv0 : Ins := ⟨1, 0, 0, 0, ⟨#[]⟩⟩
theorem mv0_wf : mv0.wf := wf_lit _ _ _ _ _ (by unfold i64; decide) (by unfold i64; decide) (by unfold i64; decide) (by unfold i64; decide) (by decide)
def padL (p : List Ins) (n : Nat) : List Ins := p ++ List.replicate n mv0
theorem padL_len (p : List Ins) (n : Nat) : (padL p n).length = p.length + n := by simp [padL]
theorem padL_zero (p : List Ins) : padL p 0 = p := by simp [padL]
theorem padL_succ (p : List Ins) (n : Nat) : padL p (n + 1) = padL p n ++ [mv0] := by
  unfold padL
  rw [List.replicate_succ', List.append_assoc]
/-- What Pad answers. -/
def padE (p : List Ins) (n : Int) : Int := if validB p = false then 1 else if n < 0 ∨ 1000 < n then 2 else if 4000 < (p.length : Int) + n then 3 else 0
def padR (p : List Ins) (n : Int) : List Ins := if padE p n = 0 then padL p n.toNat else []
/-- What Pad leaves. -/
def PadOut (w : World) (er : Int) (l : List Ins) (e : Ending) (w' : World) : Prop := ∃ a c, e = .returned (.tuple #[.slice a l.length c, .int .i64 er]) ∧ OwnI w' w.heap.size (.slice a l.length c) l ∧ Below w.heap.size w w'
theorem PadOut.bad {w w' : World} {er : Int} {e : Ending} (he : e = .returned (.tuple #[.slice none 0 0, .int .i64 er])) (hb : Below w.heap.size w w') : PadOut w er [] e w' := ⟨none, 0, he, OwnI.nil _ _, hb⟩
set_option maxRecDepth 20000 in
set_option maxHeartbeats 8000000 in
theorem pad_ok (v : Value) (p : List Ins) (w : World) (hp : InsRow w w.heap.size v p) (n : Nat) (hv : validB p = true) (hn : n ≤ 1000) (hs : p.length + n ≤ 4000) :
    Calls Try.prog 57 #[v, .int .i64 n] w (PadOut w 0 (padL p n)) := by
  obtain ⟨ao, cap, rfl⟩ := hp.len
  have hwf := Lib.hid hp.1
  obtain ⟨L, hL⟩ : ∃ L, p.length = L := ⟨_, rfl⟩
  rw [hL] at hp hs ⊢
  have HP := Lib.hid hp
  have HL := Lib.hid hL
  have kv := Lib.hid (codeValidP_at _ p w hp true hv)
  have hnI : (0 : Int) ≤ n ∧ (n : Int) ≤ 1000 := by omega
  have hLI : (0 : Int) ≤ L ∧ (L : Int) ≤ 4000 := by omega
  have hsI : (L : Int) + n ≤ 4000 := by omega
  obtain ⟨N, hN⟩ : ∃ N : Nat, L + n = N := ⟨_, rfl⟩
  have hNI : (L : Int) + n = (N : Int) := by omega
  have hN4 : N ≤ 4000 := by omega
  have hmk : ∀ w : World, (Instr.makeSlice 23 (.int .i64 (N : Int)) (.int .i64 (N : Int))).run Try.prog w = .ok (.slice (some ⟨w.heap.size, 0, none⟩) N N) (w.alloc (.cells (madeCells #[.int .i64 0, .int .i64 0, .int .i64 0, .int .i64 0, .string ⟨#[]⟩] (N * 5)) 75)) := fun w => by
    obtain ⟨i, hi, hz, hsize, hbytes⟩ := info_parts el_ins.hi
    have h := run_make (P := Try.prog) w 23 75 i _ el_ins.ht hi hz .i64 .i64 N N (by omega) (by omega) (by rw [hbytes]; omega) (by omega)
    rw [h, hsize]
    rfl
  have hN0 : (0 : Int) ≤ N ∧ (N : Int) ≤ 4000 := by omega
  have HNN := Lib.hid hN
  have hLn := Lib.hid hL
  clear hp hL hv hs hN
  go_enter Try.func57, Try.ntmps57
  go_wp2_with fail
  refine kv.out.mono ?_
  rintro e w1 ⟨rfl, hb1⟩
  have HB1 := Lib.hid hb1
  have HP1 := Lib.hid ((HP.out.below hb1).mono hb1.size)
  clear hb1 kv
  have hcur := size_madeCells #[.int .i64 0, .int .i64 0, .int .i64 0, .int .i64 0, .string ⟨#[]⟩] (N * 5)
  have hblk := heap_alloc_new w1 (.cells (madeCells #[.int .i64 0, .int .i64 0, .int .i64 0, .int .i64 0, .string ⟨#[]⟩] (N * 5)) 75)
  have hba : Below w1.heap.size w1 (w1.alloc (.cells (madeCells #[.int .i64 0, .int .i64 0, .int .i64 0, .int .i64 0, .string ⟨#[]⟩] (N * 5)) 75)) := (Below.refl _ _).alloc (Nat.le_refl _) _
  have hsrc := (HP1.out.below hba).src
  have hb2 := HB1.out.trans (hba.mono HB1.out.size)
  have hbs := HB1.out.size
  rw [HL.out] at hsrc
  obtain ⟨w2, cs, hcp, hg, hcs, htk, hb⟩ := copy_run el_ins 3 (N := N) (cap := N) HL.out hsrc hblk (by have := HNN.out; omega) (by rw [hcur]; have := HNN.out; omega) hb2 hbs
  rw [hcur] at hcs
  have HCS := hcs
  obtain ⟨b, hbe⟩ : ∃ b, w1.heap.size = b := ⟨_, rfl⟩
  rw [hbe] at hg hbs hcp
  simp only
  clear hsrc hblk hba hb2 hcs hcur
  have HBE := Lib.hid hbe
  have hsz := HNN.out
  go_wp2
  go_loopg [34] n (fun gg i wr => ∃ (j : Nat) (cs : Array Value), j ≤ n ∧ gg = n - j ∧ i = .int .i64 (j : Int) ∧ Hid (wr.heap[b]? = some (.cells cs 75 (0, 0))) ∧ Hid (cs.size = N * 5) ∧ Hid (cs.toList.take ((L + j) * 5) = inscells (padL p j)) ∧ Hid (Below w.heap.size w wr))
  case atStart => exact ⟨0, cs, by omega, rfl, rfl, hg, HCS, Lib.hid (by rw [padL_zero]; exact htk.out), hb⟩
  case round =>
    clear hg HCS htk hb
    obtain ⟨j, cs, hj, hgg, rfl, hg, HCS, htk, hb⟩ := hrel
    have HGG := Lib.hid hgg; clear hgg
    have hj0 : (0 : Int) ≤ j := by omega
    by_cases hlt : j < n
    · have hjI : (j : Int) < n := by omega
      have hkN : ((L + j : Nat) : Int) < N := by omega
      have hsum : (L : Int) + j = ((L + j : Nat) : Int) := by omega
      obtain ⟨k, hk⟩ : ∃ k, L + j = k := ⟨_, rfl⟩
      rw [hk] at htk hkN hsum
      have hkN2 : k < N := by omega
      have HK := Lib.hid hk
      have cc := fun i => (block_cells hg.out).1 i
      have ff := fun i => (block_cells hg.out).2 i
      have hsz5 := HCS.out
      obtain ⟨x0, hx0⟩ : ∃ x, cs[k * 5]? = some x := ⟨_, Array.getElem?_eq_getElem (by omega)⟩
      obtain ⟨x1, hx1⟩ : ∃ x, cs[k * 5 + 1]? = some x := ⟨_, Array.getElem?_eq_getElem (by omega)⟩
      obtain ⟨x2, hx2⟩ : ∃ x, cs[k * 5 + 2]? = some x := ⟨_, Array.getElem?_eq_getElem (by omega)⟩
      obtain ⟨x3, hx3⟩ : ∃ x, cs[k * 5 + 3]? = some x := ⟨_, Array.getElem?_eq_getElem (by omega)⟩
      obtain ⟨x4, hx4⟩ : ∃ x, cs[k * 5 + 4]? = some x := ⟨_, Array.getElem?_eq_getElem (by omega)⟩
      have c0 := (cc (k * 5)).trans hx0
      have c1 := (cc (k * 5 + 1)).trans hx1
      have c2 := (cc (k * 5 + 2)).trans hx2
      have c3 := (cc (k * 5 + 3)).trans hx3
      have c4 := (cc (k * 5 + 4)).trans hx4
      have f0 := ff (k * 5)
      have f1 := ff (k * 5 + 1)
      have f2 := ff (k * 5 + 2)
      have f3 := ff (k * 5 + 3)
      have f4 := ff (k * 5 + 4)
      have hs := Lib.hid (set_blk (set_blk (set_blk (set_blk (set_blk hg.out (k * 5) (.int .i64 1)) (k * 5 + 1) (.int .i64 0)) (k * 5 + 2) (.int .i64 0)) (k * 5 + 3) (.int .i64 0)) (k * 5 + 4) (.string ⟨#[]⟩))
      have hbb := Lib.hid (((((hb.out.setCell (p := ⟨b, k * 5, none⟩) hbs (.int .i64 1)).setCell (p := ⟨b, k * 5 + 1, none⟩) hbs (.int .i64 0)).setCell (p := ⟨b, k * 5 + 2, none⟩) hbs (.int .i64 0)).setCell (p := ⟨b, k * 5 + 3, none⟩) hbs (.int .i64 0)).setCell (p := ⟨b, k * 5 + 4, none⟩) hbs (.string ⟨#[]⟩))
      have hp5 := Lib.hid (put5 (x := mv0) (l := padL p j) rfl (by rw [padL_len, HL.out]; exact hk) htk.out (by omega))
      have hk0 : (0 : Int) ≤ k := by omega
      clear cc ff hx0 hx1 hx2 hx3 hx4 hsz5 hg htk hb hk
      go_wp2
      go_roundg (n - (j + 1))
      case measure => rw [HGG.out]; omega
      case rel => exact ⟨j + 1, _, by omega, rfl, by go_num, hs, Lib.hid (by simp only [Array.size_setIfInBounds]; exact HCS.out), Lib.hid (by rw [padL_succ, ← hp5.out, show L + (j + 1) = k + 1 by have := HK.out; omega]; rfl), hbb⟩
    · obtain rfl : j = n := by omega
      have hown : wr.ownsRow w.heap.size 75 5 (.slice (some ⟨b, 0, none⟩) N N) N (inscells (padL p j)) :=
        ⟨by rw [inscells_length, padL_len, HL.out, HNN.out], .inr ⟨b, N, cs, rfl, hbs, hg.out, Nat.le_refl _, by unfold maxLen; omega, HCS.out, by rw [← htk.out, HNN.out]⟩⟩
      have hO : Hid (OwnI wr w.heap.size (.slice (some ⟨b, 0, none⟩) N N) (padL p j)) := Lib.hid ⟨by rw [padL_len, HL.out, HNN.out]; exact hown, fun x hx => by
        unfold padL at hx
        rcases List.mem_append.1 hx with hx | hx
        · exact hwf.out x hx
        · rw [List.eq_of_mem_replicate hx]; exact mv0_wf⟩
      have hLN : Hid ((padL p j).length = N) := Lib.hid (by rw [padL_len, HL.out, HNN.out])
      clear hown hg htk
      go_wp2
      go_ret2
      exact ⟨some ⟨b, 0, none⟩, N, by rw [hLN.out]; rfl, by rw [hLN.out]; exact hO.out, hb.out⟩
set_option maxRecDepth 20000 in
theorem pad_any (v : Value) (p : List Ins) (w : World) (hp : InsRow w w.heap.size v p) (n : Int) (hn : -9223372036854775808 ≤ n ∧ n ≤ 9223372036854775807) :
    Calls Try.prog 57 #[v, .int .i64 n] w (PadOut w (padE p n) (padR p n)) := by
  cases hv : validB p with
  | false =>
    have e1 : padE p n = 1 := if_pos hv
    have e2 : padR p n = [] := by unfold padR; rw [e1]; rfl
    rw [e1, e2]
    have kv := Lib.hid (codeValidP_at _ p w hp false hv)
    clear e1 e2 hv
    obtain ⟨ao, cap, rfl⟩ := hp.len
    clear hp
    go_enter Try.func57, Try.ntmps57
    go_wp2_with fail
    refine kv.out.mono ?_
    rintro e w1 ⟨rfl, hb1⟩
    go_wp2
    go_ret2
    exact PadOut.bad rfl hb1
  | true =>
    have hv' : ¬ validB p = false := by rw [hv]; decide
    by_cases h0 : n < 0 ∨ 1000 < n
    · have e1 : padE p n = 2 := by unfold padE; rw [if_neg hv', if_pos h0]
      have e2 : padR p n = [] := by unfold padR; rw [e1]; rfl
      rw [e1, e2]
      have kv := Lib.hid (codeValidP_at _ p w hp true hv)
      clear e1 e2 hv hv'
      obtain ⟨ao, cap, rfl⟩ := hp.len
      clear hp
      rcases h0 with h0 | h0
      · go_enter Try.func57, Try.ntmps57
        go_wp2_with fail
        refine kv.out.mono ?_
        rintro e w1 ⟨rfl, hb1⟩
        go_wp2
        go_ret2
        exact PadOut.bad rfl hb1
      · have h1 : ¬ n < 0 := by omega
        go_enter Try.func57, Try.ntmps57
        go_wp2_with fail
        refine kv.out.mono ?_
        rintro e w1 ⟨rfl, hb1⟩
        go_wp2
        go_ret2
        exact PadOut.bad rfl hb1
    · have hl4 := validB_len hv
      obtain ⟨m, rfl⟩ : ∃ m : Nat, n = m := ⟨n.toNat, by omega⟩
      by_cases h4 : 4000 < (p.length : Int) + m
      · have e1 : padE p m = 3 := by unfold padE; rw [if_neg hv', if_neg h0, if_pos h4]
        have e2 : padR p m = [] := by unfold padR; rw [e1]; rfl
        rw [e1, e2]
        have kv := Lib.hid (codeValidP_at _ p w hp true hv)
        have hmI : (0 : Int) ≤ m ∧ (m : Int) ≤ 1000 := by omega
        clear e1 e2 hv hv' h0 hn
        obtain ⟨ao, cap, rfl⟩ := hp.len
        obtain ⟨L, hL⟩ : ∃ L, p.length = L := ⟨_, rfl⟩
        rw [hL] at h4 hl4 kv ⊢
        have hLI : (0 : Int) ≤ L ∧ (L : Int) ≤ 4000 := by omega
        clear hp hL hl4
        go_enter Try.func57, Try.ntmps57
        go_wp2_with fail
        refine kv.out.mono ?_
        rintro e w1 ⟨rfl, hb1⟩
        go_wp2
        go_ret2
        exact PadOut.bad rfl hb1
      · have e1 : padE p m = 0 := by unfold padE; rw [if_neg hv', if_neg h0, if_neg h4]
        have e2 : padR p m = padL p m := by unfold padR; rw [if_pos e1]; rfl
        rw [e1, e2]
        exact pad_ok v p w hp m hv (by omega) (by omega)
set_option maxRecDepth 20000 in
set_option maxHeartbeats 4000000 in
theorem rpad_any (v : Value) (p : List Ins) (w : World) (hp : InsRow w w.heap.size v p) (n : Nat) (hn : n ≤ 1000) (hl : p.length ≤ 4000) :
    Calls Try.prog 56 #[v, .int .i64 n] w fun e w' => ∃ a c, e = .returned (.slice a (padL p n).length c) ∧ OwnI w' w.heap.size (.slice a (padL p n).length c) (padL p n) ∧ Below w.heap.size w w' := by
  have kt := Lib.hid (twin_own v p w hp)
  obtain ⟨ao, cap, rfl⟩ := hp.len
  obtain ⟨L, hL⟩ : ∃ L, p.length = L := ⟨_, rfl⟩
  rw [hL] at kt hl ⊢
  have HL := Lib.hid hL
  have hnI : (0 : Int) ≤ n ∧ (n : Int) ≤ 1000 := by omega
  clear hp hL
  go_enter Try.func56, Try.ntmps56
  go_wp2_with fail
  refine kt.out.mono ?_
  rintro e w1 ⟨a1, c1, rfl, ho1, hb1⟩
  have HO1 := Lib.hid ho1
  have HB1 := Lib.hid hb1
  clear ho1 hb1 kt
  go_wp2
  go_loopg [5, 6] n (fun gg q i wr => ∃ (j : Nat), j ≤ n ∧ gg = n - j ∧ i = .int .i64 (j : Int) ∧ Hid (OwnI wr w.heap.size q (padL p j)) ∧ Hid (Below w.heap.size w wr))
  case atStart => exact ⟨0, by omega, rfl, rfl, Lib.hid (by rw [padL_zero]; exact HO1.out), HB1⟩
  case round =>
    clear HO1 HB1
    obtain ⟨j, hj, hgg, rfl, hO, hB⟩ := hrel
    have HGG := Lib.hid hgg; clear hgg
    have hj0 : (0 : Int) ≤ j := by omega
    obtain ⟨qa, qc, rfl⟩ := hO.out.slice
    have hlj := padL_len p j
    obtain ⟨q, hq⟩ : ∃ q, (padL p j).length = q := ⟨_, rfl⟩
    rw [hq] at hO hlj ⊢
    rw [HL.out] at hlj
    have HQ := Lib.hid hq
    clear hq
    by_cases hlt : j < n
    · have hjI : (j : Int) < n := by omega
      have ho := hO.out
      have hb := hB.out
      clear hO hB
      go_wp2_with (at_builtin; refine app_lit rfl _ _ rfl (v := .slice qa q qc) (n := 1) [mv0] rfl ho rfl rfl ?c1 ?c2 hb ?_)
      case c1 => simp; exact mv0_wf
      case c2 => rw [HQ.out]; omega
      clear ho hb
      intro a' k' s' w7 hk7 ho hb
      have HO7 : Hid (OwnI w7 w.heap.size (.slice a' k' s') (padL p (j + 1))) := Lib.hid (by rw [padL_succ]; exact ho.out)
      clear ho hk7
      go_wp2
      go_roundg (n - (j + 1))
      case measure => rw [HGG.out]; omega
      case rel => exact ⟨j + 1, by omega, rfl, by go_num, HO7, hb⟩
    · obtain rfl : j = n := by omega
      go_wp2
      go_ret
      exact ⟨qa, qc, by rw [HQ.out]; rfl, by rw [HQ.out]; exact hO.out, hB.out⟩
end Go.Proofs.Ytdjbcmfjlfkcjaa


/- narcissusref02.Decode. -/
import Derived.Test.YtdjbcmfjlfkcjaaMB4
import Derived.Test.YtdjbcmfjlfkcjaaRCode2
import Derived.Test.YtdjbcmfjlfkcjaaMB0
namespace Go.Proofs.Ytdjbcmfjlfkcjaa
open Go.RowKit

/-- What is read of a tree, whatever it is. -/
def rdB (op a : Int) (r : Tr) : Ins :=
  if op = 0 then ⟨op, a, 0, 0, TS r⟩
  else if op = 1 ∨ op = 3 ∨ op = 4 then ⟨op, a, rVal r, 0, ⟨#[]⟩⟩
  else if op = 2 then ⟨op, a, rVal r.hd, rVal r.tl, ⟨#[]⟩⟩
  else if op = 5 then (if r.hd = .nil then ⟨op, a, rVal r.tl, 0, ⟨#[]⟩⟩ else ⟨op, a, -rVal r.tl, 0, ⟨#[]⟩⟩)
  else ⟨op, a, 0, 0, ⟨#[]⟩⟩
def rdI (u : Tr) : Ins := rdB (rVal u.hd) (rVal u.tl.hd) u.tl.tl
theorem rVal_num {t : Tr} (h : t.isNum = true) : rVal t = t.pairs := if_pos h
theorem rVal_le {t : Tr} (h : t.size ≤ 2000000) : -1 ≤ rVal t ∧ rVal t ≤ 1000000 := by
  rw [t.size_pairs] at h
  unfold rVal
  split <;> omega
theorem rdI_dec {u : Tr} {x : Ins} (h : decI u = some x) : rdI u = x := by
  match u, h with
  | .pair o (.pair a r), h =>
    rw [decI_eq] at h
    by_cases hoa : (o.isNum && a.isNum) = true
    · rw [if_pos hoa] at h
      simp only [Bool.and_eq_true] at hoa
      have ho := rVal_num hoa.1
      have ha := rVal_num hoa.2
      have e1 : rVal (Tr.pair o (.pair a r)).hd = o.pairs := ho
      have e2 : rVal (Tr.pair o (.pair a r)).tl.hd = a.pairs := ha
      have e3 : (Tr.pair o (.pair a r)).tl.tl = r := rfl
      unfold rdI
      rw [e1, e2, e3]
      unfold rdB
      generalize o.pairs = n at h ⊢
      generalize a.pairs = q at h ⊢
      unfold decB at h
      split at h
      · injection h with h
      · split at h
        · next hn =>
          injection h with h
          subst h
          simp [rVal_num hn]
        · cases h
      · split at h
        · split at h
          · next b c hn =>
            simp only [Bool.and_eq_true] at hn
            injection h with h
            subst h
            simp [Tr.hd, Tr.tl, rVal_num hn.1, rVal_num hn.2]
          · cases h
        · cases h
      · split at h
        · next hn =>
          injection h with h
          subst h
          simp [rVal_num hn]
        · cases h
      · split at h
        · next hn =>
          injection h with h
          subst h
          simp [rVal_num hn]
        · cases h
      · split at h
        · split at h
          · next b hn =>
            injection h with h
            subst h
            simp [Tr.hd, Tr.tl, rVal_num hn]
          · cases h
        · split at h
          · next b hn =>
            simp only [Bool.and_eq_true] at hn
            injection h with h
            subst h
            simp [Tr.hd, Tr.tl, rVal_num hn.1]
          · cases h
        · cases h
      · cases h
    · rw [if_neg hoa] at h
      cases h
theorem rdI_wf {u : Tr} (h : u.size ≤ 2000000) : (rdI u).wf := by
  have h1 := rVal_le (t := u.hd) (Nat.le_trans (hd_size _) h)
  have ht := Nat.le_trans (tl_size u) h
  have h2 := rVal_le (t := u.tl.hd) (Nat.le_trans (hd_size _) ht)
  have hr := Nat.le_trans (tl_size u.tl) ht
  have h3 := rVal_le (t := u.tl.tl) hr
  have h4 := rVal_le (t := u.tl.tl.hd) (Nat.le_trans (hd_size _) hr)
  have h5 := rVal_le (t := u.tl.tl.tl) (Nat.le_trans (tl_size _) hr)
  have h0 : (⟨#[]⟩ : ByteArray).size ≤ 140737488355328 := by decide
  have h7 : (TS u.tl.tl).size ≤ 140737488355328 := by rw [TS_size]; omega
  have hi : ∀ z : Int, -1000000 ≤ z → z ≤ 1000000 → i64 z := fun z a b => by unfold i64; omega
  have hz : i64 0 := hi 0 (by omega) (by omega)
  have g1 := hi _ (by omega) h1.2
  have g2 := hi _ (by omega) h2.2
  unfold rdI rdB
  split
  · exact ⟨g1, g2, hz, hz, h7⟩
  · split
    · exact ⟨g1, g2, hi (rVal u.tl.tl) (by omega) h3.2, hz, h0⟩
    · split
      · exact ⟨g1, g2, hi (rVal u.tl.tl.hd) (by omega) h4.2, hi (rVal u.tl.tl.tl) (by omega) h5.2, h0⟩
      · split
        · split
          · exact ⟨g1, g2, hi (rVal u.tl.tl.tl) (by omega) h5.2, hz, h0⟩
          · exact ⟨g1, g2, hi (-rVal u.tl.tl.tl) (by omega) (by omega), hz, h0⟩
        · exact ⟨g1, g2, hz, hz, h0⟩
theorem decM_rd : ∀ {us : List Tr} {l : List Ins}, decM us = some l → us.map rdI = l
  | [], l, h => by cases h; rfl
  | u :: us, l, h => by
    rw [decM] at h
    split at h
    · next x m h1 h2 =>
      injection h with h
      subst h
      rw [List.map_cons, rdI_dec h1, decM_rd h2]
    · cases h
theorem decT_rd {t : Tr} {l : List Ins} (h : decT t = some l) : t.items.map rdI = l := by
  unfold decT at h
  rw [decM_items] at h
  split at h
  · next m hm =>
    split at h
    · injection h with h
      subst h
      exact decM_rd hm
    · cases h
  · cases h
/-- What narcissusref02.Decode leaves. -/
def RDecOut (w : World) (t : Tr) (e : Ending) (w' : World) : Prop :=
  Below w.heap.size w w' ∧ ((∃ l v, decT t = some l ∧ e = .returned (.tuple #[v, .bool true]) ∧ OwnI w' w.heap.size v l) ∨ (decT t = none ∧ ∃ v, e = .returned (.tuple #[v, .bool false])))
theorem RDecOut.bad {w w' : World} {t : Tr} {e : Ending} {v : Value} (h : decT t = none) (he : e = .returned (.tuple #[v, .bool false])) (hb : Below w.heap.size w w') : RDecOut w t e w' := ⟨hb, .inr ⟨h, v, he⟩⟩
theorem RDecOut.ok {w w' : World} {t : Tr} {e : Ending} {l : List Ins} {v : Value} (h : decT t = some l) (he : e = .returned (.tuple #[v, .bool true])) (hr : OwnI w' w.heap.size v l) (hb : Below w.heap.size w w') : RDecOut w t e w' := ⟨hb, .inl ⟨l, v, h, he, hr⟩⟩
/-- The two ends: what is read is the program, or it is not. -/
theorem decT_end {t : Tr} (ht : t.size ≤ 2000000) (_hl : t.items.length ≤ 4000) :
    (validB (t.items.map rdI) = false ∧ decT t = none) ∨ (validB (t.items.map rdI) = true ∧ ((codeOf (t.items.map rdI)).toList == (TS t).toList) = false ∧ decT t = none) ∨ (validB (t.items.map rdI) = true ∧ codeOf (t.items.map rdI) = TS t ∧ decT t = some (t.items.map rdI)) := by
  cases hv : validB (t.items.map rdI) with
  | false =>
    refine .inl ⟨rfl, ?_⟩
    cases hd : decT t with
    | none => rfl
    | some l =>
      have h1 := decT_rd hd
      have h2 := (decT_code ht hd).2
      rw [h1, h2] at hv
      cases hv
  | true =>
    by_cases he : codeOf (t.items.map rdI) = TS t
    · refine .inr (.inr ⟨rfl, he, ?_⟩)
      have h1 := codeOf_TS (validB_all hv)
      rw [he] at h1
      have h2 := TS_inj h1
      have h3 := decT_of hv
      rw [← h2] at h3
      exact h3
    · refine .inr (.inl ⟨rfl, ?_, ?_⟩)
      · rw [ByteArray.toList_eq, ByteArray.toList_eq, beq_eq_false_iff_ne]
        exact fun e => he (ba_ext e)
      · cases hd : decT t with
        | none => rfl
        | some l =>
          have h1 := decT_rd hd
          have h2 := (decT_code ht hd).1
          refine absurd ?_ he
          rw [h1, codeOf_TS (validB_all (by rw [← h1]; exact hv)), h2]
/-- append of single instructions, where the size of memory is said in other words. -/
theorem app_litH {ops : Array Oper} {rest : List Oper} {o : Oper} {a : Act} {Q : Exit → Act → World → Prop} (hgd : o.guard = none) (s x : Operand)
    (ho : o.op = .call { callee := .builtin .append, args := #[s, x], argTypes := #[23, 23] }) {w w0 : World} {v : Value} {m : List Ins} (l : List Ins) {n h : Nat}
    (hs : a.eval s = v) (hown : OwnI w w0.heap.size v m) (hx : a.eval x = .slice (some ⟨h, 0, none⟩) n n) (hh : w.heap.size = h) (hn : l.length = n) (hwf : ∀ y ∈ l, y.wf) (hlen : m.length + n ≤ 1000000000) (hb : Below w0.heap.size w0 w)
    (hk : ∀ a' k c' w', Hid (k = m.length + n) → Hid (OwnI w' w0.heap.size (.slice a' k c') (m ++ l)) → Hid (Below w0.heap.size w0 w') → wpList Try.prog ops Q rest (a.put o.dst (.slice a' k c')) w') :
    wpList Try.prog ops Q (o :: rest) a (w.alloc (.cells (inscells l).toArray 75)) := by
  subst hh
  exact app_lit hgd s x ho l hs hown hx hn hwf hlen hb hk
theorem rtl_at {t : Tr} (ht : t.size ≤ 2000000) (w : World) : Calls Try.prog 120 #[.string (TS t)] w fun e w' => e = .returned (.string (TS t.tl)) ∧ w = w' := refTail_ok t ht w
theorem sg_ne {t : Tr} (h : t ≠ .nil) : ((TS t).toList == [48]) = false := by
  rw [ByteArray.toList_eq, TS_list, beq_eq_false_iff_ne]
  intro e
  exact h (enc_inj (u := .nil) e)

set_option maxRecDepth 20000 in
set_option maxHeartbeats 8000000 in
theorem rdecode_any (t : Tr) (ht : t.size ≤ 2000000) (w : World) : Calls Try.prog 89 #[.string (TS t)] w (RDecOut w t) := by
  have ki := Lib.hid (fun w => refItems_row t ht w)
  have HU := Lib.hid (fun u (hu : u ∈ t.items) => (items_small ht hu u rfl : u.size ≤ 2000000))
  have HLONG := Lib.hid (decT_long (t := t))
  have HEND := Lib.hid (decT_end ht)
  obtain ⟨us, hus⟩ : ∃ us, t.items = us := ⟨_, rfl⟩
  rw [hus] at ki HU HLONG HEND
  clear hus ht
  generalize TS t = s0 at *
  go_enter Try.func89, Try.ntmps89
  go_wp2_with fail
  refine (ki.out _).mono ?_
  rintro e w1 ⟨v, rfl, hrow, hb1⟩
  obtain ⟨ao, cap, rfl⟩ := hrow.len
  have hn5 := hrow.2.1
  obtain ⟨n, hn⟩ : ∃ n, us.length = n := ⟨_, rfl⟩
  rw [List.length_map, hn] at hn5
  rw [List.length_map, hn] at hrow ⊢
  have HROW := Lib.hid hrow
  have HB := Lib.hid hb1
  have HN := Lib.hid hn
  clear hrow hb1 ki hn
  have hnI : (n : Int) ≤ 4611686018427387904 := by omega
  by_cases h4 : 4000 < n
  · have h4I : (4000 : Int) < n := by omega
    have HL := Lib.hid (HLONG.out (by rw [HN.out]; exact h4))
    clear h4 hnI hn5
    go_wp2
    go_ret2
    exact RDecOut.bad HL.out rfl HB.out
  have h4I : ¬ (4000 : Int) < n := by omega
  have hn4 : n ≤ 4000 := by omega
  clear h4 hnI hn5
  go_wp2
  clear h4I
  go_loopg [5, 6] n (fun gg p i wr => ∃ (k : Nat), k ≤ n ∧ gg = n - k ∧ i = .int .i64 (k : Int) ∧ Hid (OwnI wr w1.heap.size p ((us.take k).map rdI)) ∧ Hid (Below w1.heap.size w1 wr))
  case atStart => exact ⟨0, by omega, rfl, rfl, Lib.hid (OwnI.nil _ _), Lib.hid (Below.refl _ _)⟩
  case round =>
    obtain ⟨k, hk, hgg, rfl, hO, hb⟩ := hrel
    have HGG := Lib.hid hgg; clear hgg
    obtain ⟨oa, oc, rfl⟩ := hO.out.slice
    have hLk : ((us.take k).map rdI).length = k := by rw [List.length_map, List.length_take, HN.out]; omega
    rw [hLk] at hO ⊢
    have HLK := Lib.hid hLk
    clear hLk
    have hkI : (0 : Int) ≤ k := by omega
    by_cases hlt : k < n
    · obtain ⟨u, hu⟩ : ∃ u, us[k]? = some u := ⟨_, List.getElem?_eq_getElem (by rw [HN.out]; exact hlt)⟩
      have hum : u ∈ us := List.mem_of_getElem? hu
      have hus := HU.out u hum
      have hrw := HROW.out.below hb.out
      obtain ⟨g, off, rfl, hg, c0⟩ := hrw.get (k := k) (s := TS u) (by rw [List.getElem?_map, hu]; rfl)
      have hkI2 : (k : Int) < n := by omega
      have hSU : Hid ((us.take (k + 1)).map rdI = (us.take k).map rdI ++ [rdI u]) := Lib.hid (by rw [take_snoc' _ _ _ hu, List.map_append]; rfl)
      have hWF := Lib.hid (rdI_wf hus)
      have z1 := Nat.le_trans (hd_size u) hus
      have z2 := Nat.le_trans (tl_size u) hus
      have z3 := Nat.le_trans (hd_size u.tl) z2
      have z4 := Nat.le_trans (tl_size u.tl) z2
      have z5 := Nat.le_trans (hd_size u.tl.tl) z4
      have z6 := Nat.le_trans (tl_size u.tl.tl) z4
      have kt0 := Lib.hid (fun w => refTail_ok u hus w)
      have kh0 := Lib.hid (fun w => refHead_ok u hus w)
      have kv0 := Lib.hid (fun w => refValue_ok u.hd z1 w)
      have kh1 := Lib.hid (fun w => refHead_ok u.tl z2 w)
      have kv1 := Lib.hid (fun w => refValue_ok u.tl.hd z3 w)
      have kt1 := Lib.hid (fun w => refTail_ok u.tl z2 w)
      have kv2 := Lib.hid (fun w => refValue_ok u.tl.tl z4 w)
      have kh2 := Lib.hid (fun w => refHead_ok u.tl.tl z4 w)
      have kt2 := Lib.hid (fun w => refTail_ok u.tl.tl z4 w)
      have kv3 := Lib.hid (fun w => refValue_ok u.tl.tl.hd z5 w)
      have kv4 := Lib.hid (fun w => refValue_ok u.tl.tl.tl z6 w)
      have hsg : (((TS u.tl.tl.hd).toList == [48]) = true ∧ u.tl.tl.hd = .nil) ∨ (((TS u.tl.tl.hd).toList == [48]) = false ∧ u.tl.tl.hd ≠ .nil) := by
        by_cases h : u.tl.tl.hd = .nil
        · exact .inl ⟨by rw [h, ByteArray.toList_eq, TS_list]; rfl, h⟩
        · exact .inr ⟨sg_ne h, h⟩
      have hjI := rVal_le (t := u.tl.tl.tl) z6
      have HJI := Lib.hid hjI
      have hrd := Lib.hid (show rdI u = rdB (rVal u.hd) (rVal u.tl.hd) u.tl.tl from rfl)
      clear hus hum hrw hu z1 z2 z3 z4 z5 z6 hjI
      unfold rdB at hrd
      obtain ⟨x, hx⟩ : ∃ x, rdI u = x := ⟨_, rfl⟩
      rw [hx] at hSU hWF hrd
      clear hx
      obtain ⟨L, hL⟩ : ∃ L, (us.take k).map rdI = L := ⟨_, rfl⟩
      rw [hL] at hO HLK hSU
      clear hL
      generalize TS u = s at *
      generalize TS u.hd = s1 at *
      generalize TS u.tl.tl.hd = s5 at *
      generalize TS u.tl.tl.tl = s6 at *
      generalize TS u.tl.tl = s4 at *
      generalize TS u.tl.hd = s3 at *
      generalize TS u.tl = s2 at *
      generalize rVal u.hd = op at *
      generalize rVal u.tl.hd = xa at *
      generalize rVal u.tl.tl.hd = y5 at *
      generalize rVal u.tl.tl.tl = y6 at *
      generalize rVal u.tl.tl = y4 at *
      go_wp2_with fail
      refine (kt0.out _).mono ?_
      rintro e _ ⟨rfl, rfl⟩
      go_wp2_with fail
      refine (kh0.out _).mono ?_
      rintro e _ ⟨rfl, rfl⟩
      go_wp2_with fail
      refine (kv0.out _).mono ?_
      rintro e _ ⟨rfl, rfl⟩
      go_wp2_with fail
      refine (kh1.out _).mono ?_
      rintro e _ ⟨rfl, rfl⟩
      go_wp2_with fail
      refine (kv1.out _).mono ?_
      rintro e _ ⟨rfl, rfl⟩
      go_wp2_with fail
      obtain ⟨w2, hW⟩ : ∃ B, wr.alloc (.cells #[.int .i64 op, .int .i64 xa, .int .i64 0, .int .i64 0, .string ⟨#[]⟩] 75) = B := ⟨_, rfl⟩
      have hq2 : Below wr.heap.size wr w2 := by rw [← hW]; exact (Below.refl _ _).alloc (Nat.le_refl _) _
      have hblk : w2.heap[wr.heap.size]? = some (.cells #[.int .i64 op, .int .i64 xa, .int .i64 0, .int .i64 0, .string ⟨#[]⟩] 75 (0, 0)) := by rw [← hW]; exact heap_alloc_new _ _
      rw [hW]
      clear hW c0 hg
      obtain ⟨b, hbe⟩ : ∃ z, wr.heap.size = z := ⟨_, rfl⟩
      have HBE := Lib.hid hbe
      rw [hbe] at hblk ⊢
      have hle : wr.heap.size ≤ b := Nat.le_of_eq hbe
      have HLE := Lib.hid hle
      have HQ2 := Lib.hid hq2
      clear hq2 hbe hle
      refine (kt1.out _).mono ?_
      rintro e _ ⟨rfl, rfl⟩
      clear kt0 kh0 kv0 kh1 kv1 kt1
      have c0 := (block_cells hblk).1 0
      have c1 := (block_cells hblk).1 1
      have c2 := (block_cells hblk).1 2
      have c3 := (block_cells hblk).1 3
      have c4 := (block_cells hblk).1 4
      have f2 := (block_cells hblk).2 2
      have f3 := (block_cells hblk).2 3
      have f4 := (block_cells hblk).2 4
      simp only [List.getElem?_toArray, List.getElem?_cons_succ, List.getElem?_cons_zero] at c0 c1 c2 c3 c4
      have HBLK := Lib.hid hblk
      clear hblk
      by_cases o0 : op = 0
      · subst o0
        have hxe := hrd.out
        simp only [if_true] at hxe
        subst hxe
        have hs0 := set_blk (HBLK.out) 4 (.string s4)
        have p0 := (block_cells hs0).1 0
        have p1 := (block_cells hs0).1 1
        have p2 := (block_cells hs0).1 2
        have p3 := (block_cells hs0).1 3
        have p4 := (block_cells hs0).1 4
        have pf := (block_cells hs0).2 0
        simp only [List.setIfInBounds_toArray, List.set_cons_zero, List.set_cons_succ, List.getElem?_toArray, List.getElem?_cons_zero, List.getElem?_cons_succ] at p0 p1 p2 p3 p4
        have hqF : Below wr.heap.size wr (w2.setCell ⟨b, 4, none⟩ (.string s4)) := ((HQ2.out).setCell (p := ⟨b, 4, none⟩) HLE.out (.string s4))
        have hoF := hO.out.below hqF
        have hbF := hb.out.trans (hqF.mono hb.out.size)
        clear hqF HBLK hs0
        go_wp2_with (at_builtin; refine app_litH rfl _ _ rfl (v := .slice oa k oc) (n := 1) [(⟨0, xa, 0, 0, s4⟩ : Ins)] rfl hoF rfl ?c0 rfl ?c1 ?c2 hbF ?_)
        case c0 => simp [World.setCell]
        case c1 => simp; exact hWF.out
        case c2 => rw [HLK.out]; omega
        clear hoF hbF
        intro a' k' s' w7 hk7 ho hb'
        have hk2 : k' = ((us.take (k + 1)).map rdI).length := by rw [hk7.out, hSU.out, List.length_append]; rfl
        have HK2 := Lib.hid hk2
        have HO7 : Hid (OwnI w7 w1.heap.size (.slice a' k' s') ((us.take (k + 1)).map rdI)) := Lib.hid (by rw [hSU.out]; exact ho.out)
        clear hk2 hk7 ho
        go_wp2
        go_roundg (n - (k + 1))
        case measure => rw [HGG.out]; omega
        case rel => exact ⟨k + 1, by omega, rfl, by go_num, HO7, hb'⟩
      by_cases o1 : op = 1
      · subst o1
        have hxe := hrd.out
        simp at hxe
        subst hxe
        have hs0 := set_blk (HBLK.out) 2 (.int .i64 y4)
        have p0 := (block_cells hs0).1 0
        have p1 := (block_cells hs0).1 1
        have p2 := (block_cells hs0).1 2
        have p3 := (block_cells hs0).1 3
        have p4 := (block_cells hs0).1 4
        have pf := (block_cells hs0).2 0
        simp only [List.setIfInBounds_toArray, List.set_cons_zero, List.set_cons_succ, List.getElem?_toArray, List.getElem?_cons_zero, List.getElem?_cons_succ] at p0 p1 p2 p3 p4
        have hqF : Below wr.heap.size wr (w2.setCell ⟨b, 2, none⟩ (.int .i64 y4)) := ((HQ2.out).setCell (p := ⟨b, 2, none⟩) HLE.out (.int .i64 y4))
        have hoF := hO.out.below hqF
        have hbF := hb.out.trans (hqF.mono hb.out.size)
        clear hqF HBLK hs0
        go_wp2_with fail
        refine (kv2.out _).mono ?_
        rintro e _ ⟨rfl, rfl⟩
        go_wp2_with (at_builtin; refine app_litH rfl _ _ rfl (v := .slice oa k oc) (n := 1) [(⟨1, xa, y4, 0, ⟨#[]⟩⟩ : Ins)] rfl hoF rfl ?c0 rfl ?c1 ?c2 hbF ?_)
        case c0 => simp [World.setCell]
        case c1 => simp; exact hWF.out
        case c2 => rw [HLK.out]; omega
        clear hoF hbF
        intro a' k' s' w7 hk7 ho hb'
        have hk2 : k' = ((us.take (k + 1)).map rdI).length := by rw [hk7.out, hSU.out, List.length_append]; rfl
        have HK2 := Lib.hid hk2
        have HO7 : Hid (OwnI w7 w1.heap.size (.slice a' k' s') ((us.take (k + 1)).map rdI)) := Lib.hid (by rw [hSU.out]; exact ho.out)
        clear hk2 hk7 ho
        go_wp2
        go_roundg (n - (k + 1))
        case measure => rw [HGG.out]; omega
        case rel => exact ⟨k + 1, by omega, rfl, by go_num, HO7, hb'⟩
      by_cases o3 : op = 3
      · subst o3
        have hxe := hrd.out
        simp at hxe
        subst hxe
        have hs0 := set_blk (HBLK.out) 2 (.int .i64 y4)
        have p0 := (block_cells hs0).1 0
        have p1 := (block_cells hs0).1 1
        have p2 := (block_cells hs0).1 2
        have p3 := (block_cells hs0).1 3
        have p4 := (block_cells hs0).1 4
        have pf := (block_cells hs0).2 0
        simp only [List.setIfInBounds_toArray, List.set_cons_zero, List.set_cons_succ, List.getElem?_toArray, List.getElem?_cons_zero, List.getElem?_cons_succ] at p0 p1 p2 p3 p4
        have hqF : Below wr.heap.size wr (w2.setCell ⟨b, 2, none⟩ (.int .i64 y4)) := ((HQ2.out).setCell (p := ⟨b, 2, none⟩) HLE.out (.int .i64 y4))
        have hoF := hO.out.below hqF
        have hbF := hb.out.trans (hqF.mono hb.out.size)
        clear hqF HBLK hs0
        go_wp2_with fail
        refine (kv2.out _).mono ?_
        rintro e _ ⟨rfl, rfl⟩
        go_wp2_with (at_builtin; refine app_litH rfl _ _ rfl (v := .slice oa k oc) (n := 1) [(⟨3, xa, y4, 0, ⟨#[]⟩⟩ : Ins)] rfl hoF rfl ?c0 rfl ?c1 ?c2 hbF ?_)
        case c0 => simp [World.setCell]
        case c1 => simp; exact hWF.out
        case c2 => rw [HLK.out]; omega
        clear hoF hbF
        intro a' k' s' w7 hk7 ho hb'
        have hk2 : k' = ((us.take (k + 1)).map rdI).length := by rw [hk7.out, hSU.out, List.length_append]; rfl
        have HK2 := Lib.hid hk2
        have HO7 : Hid (OwnI w7 w1.heap.size (.slice a' k' s') ((us.take (k + 1)).map rdI)) := Lib.hid (by rw [hSU.out]; exact ho.out)
        clear hk2 hk7 ho
        go_wp2
        go_roundg (n - (k + 1))
        case measure => rw [HGG.out]; omega
        case rel => exact ⟨k + 1, by omega, rfl, by go_num, HO7, hb'⟩
      by_cases o4 : op = 4
      · subst o4
        have hxe := hrd.out
        simp at hxe
        subst hxe
        have hs0 := set_blk (HBLK.out) 2 (.int .i64 y4)
        have p0 := (block_cells hs0).1 0
        have p1 := (block_cells hs0).1 1
        have p2 := (block_cells hs0).1 2
        have p3 := (block_cells hs0).1 3
        have p4 := (block_cells hs0).1 4
        have pf := (block_cells hs0).2 0
        simp only [List.setIfInBounds_toArray, List.set_cons_zero, List.set_cons_succ, List.getElem?_toArray, List.getElem?_cons_zero, List.getElem?_cons_succ] at p0 p1 p2 p3 p4
        have hqF : Below wr.heap.size wr (w2.setCell ⟨b, 2, none⟩ (.int .i64 y4)) := ((HQ2.out).setCell (p := ⟨b, 2, none⟩) HLE.out (.int .i64 y4))
        have hoF := hO.out.below hqF
        have hbF := hb.out.trans (hqF.mono hb.out.size)
        clear hqF HBLK hs0
        go_wp2_with fail
        refine (kv2.out _).mono ?_
        rintro e _ ⟨rfl, rfl⟩
        go_wp2_with (at_builtin; refine app_litH rfl _ _ rfl (v := .slice oa k oc) (n := 1) [(⟨4, xa, y4, 0, ⟨#[]⟩⟩ : Ins)] rfl hoF rfl ?c0 rfl ?c1 ?c2 hbF ?_)
        case c0 => simp [World.setCell]
        case c1 => simp; exact hWF.out
        case c2 => rw [HLK.out]; omega
        clear hoF hbF
        intro a' k' s' w7 hk7 ho hb'
        have hk2 : k' = ((us.take (k + 1)).map rdI).length := by rw [hk7.out, hSU.out, List.length_append]; rfl
        have HK2 := Lib.hid hk2
        have HO7 : Hid (OwnI w7 w1.heap.size (.slice a' k' s') ((us.take (k + 1)).map rdI)) := Lib.hid (by rw [hSU.out]; exact ho.out)
        clear hk2 hk7 ho
        go_wp2
        go_roundg (n - (k + 1))
        case measure => rw [HGG.out]; omega
        case rel => exact ⟨k + 1, by omega, rfl, by go_num, HO7, hb'⟩
      by_cases o2 : op = 2
      · subst o2
        have hxe := hrd.out
        simp at hxe
        subst hxe
        have hs0 := set_blk (HBLK.out) 2 (.int .i64 y5)
        have p0 := (block_cells hs0).1 0
        have p1 := (block_cells hs0).1 1
        have p2 := (block_cells hs0).1 2
        have p3 := (block_cells hs0).1 3
        have p4 := (block_cells hs0).1 4
        have pf := (block_cells hs0).2 3
        simp only [List.setIfInBounds_toArray, List.set_cons_zero, List.set_cons_succ, List.getElem?_toArray, List.getElem?_cons_zero, List.getElem?_cons_succ] at p0 p1 p2 p3 p4
        have hs1 := set_blk (hs0) 3 (.int .i64 y6)
        have q0 := (block_cells hs1).1 0
        have q1 := (block_cells hs1).1 1
        have q2 := (block_cells hs1).1 2
        have q3 := (block_cells hs1).1 3
        have q4 := (block_cells hs1).1 4
        have qf := (block_cells hs1).2 0
        simp only [List.setIfInBounds_toArray, List.set_cons_zero, List.set_cons_succ, List.getElem?_toArray, List.getElem?_cons_zero, List.getElem?_cons_succ] at q0 q1 q2 q3 q4
        have hqF : Below wr.heap.size wr ((w2.setCell ⟨b, 2, none⟩ (.int .i64 y5)).setCell ⟨b, 3, none⟩ (.int .i64 y6)) := ((((HQ2.out).setCell (p := ⟨b, 2, none⟩) HLE.out (.int .i64 y5))).setCell (p := ⟨b, 3, none⟩) HLE.out (.int .i64 y6))
        have hoF := hO.out.below hqF
        have hbF := hb.out.trans (hqF.mono hb.out.size)
        clear hqF HBLK hs0 hs1
        go_wp2_with fail
        refine (kh2.out _).mono ?_
        rintro e _ ⟨rfl, rfl⟩
        go_wp2_with fail
        refine (kv3.out _).mono ?_
        rintro e _ ⟨rfl, rfl⟩
        go_wp2_with fail
        refine (kt2.out _).mono ?_
        rintro e _ ⟨rfl, rfl⟩
        go_wp2_with fail
        refine (kv4.out _).mono ?_
        rintro e _ ⟨rfl, rfl⟩
        go_wp2_with (at_builtin; refine app_litH rfl _ _ rfl (v := .slice oa k oc) (n := 1) [(⟨2, xa, y5, y6, ⟨#[]⟩⟩ : Ins)] rfl hoF rfl ?c0 rfl ?c1 ?c2 hbF ?_)
        case c0 => simp [World.setCell]
        case c1 => simp; exact hWF.out
        case c2 => rw [HLK.out]; omega
        clear hoF hbF
        intro a' k' s' w7 hk7 ho hb'
        have hk2 : k' = ((us.take (k + 1)).map rdI).length := by rw [hk7.out, hSU.out, List.length_append]; rfl
        have HK2 := Lib.hid hk2
        have HO7 : Hid (OwnI w7 w1.heap.size (.slice a' k' s') ((us.take (k + 1)).map rdI)) := Lib.hid (by rw [hSU.out]; exact ho.out)
        clear hk2 hk7 ho
        go_wp2
        go_roundg (n - (k + 1))
        case measure => rw [HGG.out]; omega
        case rel => exact ⟨k + 1, by omega, rfl, by go_num, HO7, hb'⟩
      by_cases o5 : op = 5
      · subst o5
        rcases hsg with ⟨hs5, hn5⟩ | ⟨hs5, hn5⟩
        · have hxe := hrd.out
          simp [hn5] at hxe
          subst hxe
          have hs0 := set_blk (HBLK.out) 2 (.int .i64 y6)
          have p0 := (block_cells hs0).1 0
          have p1 := (block_cells hs0).1 1
          have p2 := (block_cells hs0).1 2
          have p3 := (block_cells hs0).1 3
          have p4 := (block_cells hs0).1 4
          have pf := (block_cells hs0).2 0
          simp only [List.setIfInBounds_toArray, List.set_cons_zero, List.set_cons_succ, List.getElem?_toArray, List.getElem?_cons_zero, List.getElem?_cons_succ] at p0 p1 p2 p3 p4
          have hqF : Below wr.heap.size wr (w2.setCell ⟨b, 2, none⟩ (.int .i64 y6)) := ((HQ2.out).setCell (p := ⟨b, 2, none⟩) HLE.out (.int .i64 y6))
          have hoF := hO.out.below hqF
          have hbF := hb.out.trans (hqF.mono hb.out.size)
          clear hqF HBLK hs0
          go_wp2_with fail
          refine (kt2.out _).mono ?_
          rintro e _ ⟨rfl, rfl⟩
          go_wp2_with fail
          refine (kv4.out _).mono ?_
          rintro e _ ⟨rfl, rfl⟩
          go_wp2_with fail
          refine (kh2.out _).mono ?_
          rintro e _ ⟨rfl, rfl⟩
          go_wp2_with (at_builtin; refine app_litH rfl _ _ rfl (v := .slice oa k oc) (n := 1) [(⟨5, xa, y6, 0, ⟨#[]⟩⟩ : Ins)] rfl hoF rfl ?c0 rfl ?c1 ?c2 hbF ?_)
          case c0 => simp [World.setCell]
          case c1 => simp; exact hWF.out
          case c2 => rw [HLK.out]; omega
          clear hoF hbF
          intro a' k' s' w7 hk7 ho hb'
          have hk2 : k' = ((us.take (k + 1)).map rdI).length := by rw [hk7.out, hSU.out, List.length_append]; rfl
          have HK2 := Lib.hid hk2
          have HO7 : Hid (OwnI w7 w1.heap.size (.slice a' k' s') ((us.take (k + 1)).map rdI)) := Lib.hid (by rw [hSU.out]; exact ho.out)
          clear hk2 hk7 ho
          go_wp2
          go_roundg (n - (k + 1))
          case measure => rw [HGG.out]; omega
          case rel => exact ⟨k + 1, by omega, rfl, by go_num, HO7, hb'⟩
        · have hxe := hrd.out
          simp [hn5] at hxe
          have hjI := HJI.out
          subst hxe
          have hs0 := set_blk (HBLK.out) 2 (.int .i64 y6)
          have p0 := (block_cells hs0).1 0
          have p1 := (block_cells hs0).1 1
          have p2 := (block_cells hs0).1 2
          have p3 := (block_cells hs0).1 3
          have p4 := (block_cells hs0).1 4
          have pf := (block_cells hs0).2 2
          simp only [List.setIfInBounds_toArray, List.set_cons_zero, List.set_cons_succ, List.getElem?_toArray, List.getElem?_cons_zero, List.getElem?_cons_succ] at p0 p1 p2 p3 p4
          have hs1 := set_blk (hs0) 2 (.int .i64 (-y6))
          have q0 := (block_cells hs1).1 0
          have q1 := (block_cells hs1).1 1
          have q2 := (block_cells hs1).1 2
          have q3 := (block_cells hs1).1 3
          have q4 := (block_cells hs1).1 4
          have qf := (block_cells hs1).2 0
          simp only [List.setIfInBounds_toArray, List.set_cons_zero, List.set_cons_succ, List.getElem?_toArray, List.getElem?_cons_zero, List.getElem?_cons_succ] at q0 q1 q2 q3 q4
          have hqF : Below wr.heap.size wr ((w2.setCell ⟨b, 2, none⟩ (.int .i64 y6)).setCell ⟨b, 2, none⟩ (.int .i64 (-y6))) := ((((HQ2.out).setCell (p := ⟨b, 2, none⟩) HLE.out (.int .i64 y6))).setCell (p := ⟨b, 2, none⟩) HLE.out (.int .i64 (-y6)))
          have hoF := hO.out.below hqF
          have hbF := hb.out.trans (hqF.mono hb.out.size)
          clear hqF HBLK hs0 hs1
          go_wp2_with fail
          refine (kt2.out _).mono ?_
          rintro e _ ⟨rfl, rfl⟩
          go_wp2_with fail
          refine (kv4.out _).mono ?_
          rintro e _ ⟨rfl, rfl⟩
          go_wp2_with fail
          refine (kh2.out _).mono ?_
          rintro e _ ⟨rfl, rfl⟩
          go_wp2_with (at_builtin; refine app_litH rfl _ _ rfl (v := .slice oa k oc) (n := 1) [(⟨5, xa, -y6, 0, ⟨#[]⟩⟩ : Ins)] rfl hoF rfl ?c0 rfl ?c1 ?c2 hbF ?_)
          case c0 => simp [World.setCell]
          case c1 => simp; exact hWF.out
          case c2 => rw [HLK.out]; omega
          clear hoF hbF
          intro a' k' s' w7 hk7 ho hb'
          have hk2 : k' = ((us.take (k + 1)).map rdI).length := by rw [hk7.out, hSU.out, List.length_append]; rfl
          have HK2 := Lib.hid hk2
          have HO7 : Hid (OwnI w7 w1.heap.size (.slice a' k' s') ((us.take (k + 1)).map rdI)) := Lib.hid (by rw [hSU.out]; exact ho.out)
          clear hk2 hk7 ho
          go_wp2
          go_roundg (n - (k + 1))
          case measure => rw [HGG.out]; omega
          case rel => exact ⟨k + 1, by omega, rfl, by go_num, HO7, hb'⟩
      have q0 : (op == 0) = false := beq_eq_false_iff_ne.2 o0
      have q1 : (op == 1) = false := beq_eq_false_iff_ne.2 o1
      have q2 : (op == 2) = false := beq_eq_false_iff_ne.2 o2
      have q3 : (op == 3) = false := beq_eq_false_iff_ne.2 o3
      have q4 : (op == 4) = false := beq_eq_false_iff_ne.2 o4
      have q5 : (op == 5) = false := beq_eq_false_iff_ne.2 o5
      have hxe := hrd.out
      simp [o0, o1, o2, o3, o4, o5] at hxe
      subst hxe
      have hqF : Below wr.heap.size wr w2 := HQ2.out
      have hoF := hO.out.below hqF
      have hbF := hb.out.trans (hqF.mono hb.out.size)
      clear hqF HBLK
      go_wp2_with (at_builtin; refine app_litH rfl _ _ rfl (v := .slice oa k oc) (n := 1) [(⟨op, xa, 0, 0, ⟨#[]⟩⟩ : Ins)] rfl hoF rfl ?c0 rfl ?c1 ?c2 hbF ?_)
      case c0 => simp
      case c1 => simp; exact hWF.out
      case c2 => rw [HLK.out]; omega
      clear hoF hbF
      intro a' k' s' w7 hk7 ho hb'
      have hk2 : k' = ((us.take (k + 1)).map rdI).length := by rw [hk7.out, hSU.out, List.length_append]; rfl
      have HK2 := Lib.hid hk2
      have HO7 : Hid (OwnI w7 w1.heap.size (.slice a' k' s') ((us.take (k + 1)).map rdI)) := Lib.hid (by rw [hSU.out]; exact ho.out)
      clear hk2 hk7 ho
      go_wp2
      go_roundg (n - (k + 1))
      case measure => rw [HGG.out]; omega
      case rel => exact ⟨k + 1, by omega, rfl, by go_num, HO7, hb'⟩
    · have hkn : k = n := by omega
      subst hkn
      have hO2 : Hid (OwnI wr w1.heap.size (.slice oa k oc) (us.map rdI)) := Lib.hid (by have h := hO.out; rwa [List.take_of_length_le (by rw [HN.out]; exact Nat.le_refl _)] at h)
      clear hO
      have hrow : InsRow wr wr.heap.size (.slice oa k oc) (us.map rdI) := hO2.out.row (by rw [List.length_map, HN.out]; omega)
      have HR := Lib.hid hrow
      have hend := HEND.out (by rw [HN.out]; exact hn4)
      clear hrow hlt
      have HF := Lib.hid (HB.out.trans (hb.out.mono HB.out.size))
      rcases hend with ⟨hv, hd⟩ | ⟨hv, hc, hd⟩ | ⟨hv, hc, hd⟩
      · have kv := Lib.hid (fun w' (hq : Below wr.heap.size wr w') => cvalid_at (w := w') _ hv ((HR.out.below hq).mono hq.size))
        have HD := Lib.hid hd
        clear hv hd
        go_wp2_with fail
        refine (kv.out _ (Below.refl _ _)).mono ?_
        rintro e w2 ⟨rfl, hq⟩
        go_wp2
        go_ret2
        exact RDecOut.bad HD.out rfl (HF.out.trans (hq.mono HF.out.size))
      · have kv := Lib.hid (fun w' (hq : Below wr.heap.size wr w') => cvalid_at (w := w') _ hv ((HR.out.below hq).mono hq.size))
        have kc := Lib.hid (fun w' (hq : Below wr.heap.size wr w') => rcode_any _ _ w' ((HR.out.below hq).mono hq.size) hv)
        have HD := Lib.hid hd
        generalize codeOf (us.map rdI) = cs at *
        clear hv hd
        go_wp2_with fail
        refine (kv.out _ (Below.refl _ _)).mono ?_
        rintro e w2 ⟨rfl, hq⟩
        have HQ := Lib.hid hq
        clear hq
        go_wp2_with fail
        refine (kc.out _ HQ.out).mono ?_
        rintro e w3 ⟨rfl, hq3⟩
        have HQ3 := Lib.hid (HQ.out.trans (hq3.mono HQ.out.size))
        clear hq3
        go_wp2
        go_ret2
        exact RDecOut.bad HD.out rfl (HF.out.trans (HQ3.out.mono HF.out.size))
      · have kv := Lib.hid (fun w' (hq : Below wr.heap.size wr w') => cvalid_at (w := w') _ hv ((HR.out.below hq).mono hq.size))
        have kc := Lib.hid (fun w' (hq : Below wr.heap.size wr w') => rcode_any _ _ w' ((HR.out.below hq).mono hq.size) hv)
        have HD := Lib.hid hd
        rw [hc] at kc
        clear hv hd hc
        go_wp2_with fail
        refine (kv.out _ (Below.refl _ _)).mono ?_
        rintro e w2 ⟨rfl, hq⟩
        have HQ := Lib.hid hq
        clear hq
        go_wp2_with fail
        refine (kc.out _ HQ.out).mono ?_
        rintro e w3 ⟨rfl, hq3⟩
        have HQ3 := Lib.hid (HQ.out.trans (hq3.mono HQ.out.size))
        clear hq3
        go_wp2
        go_ret2
        exact RDecOut.ok HD.out rfl ((hO2.out.below HQ3.out).lower HB.out.size) (HF.out.trans (HQ3.out.mono HF.out.size))
end Go.Proofs.Ytdjbcmfjlfkcjaa


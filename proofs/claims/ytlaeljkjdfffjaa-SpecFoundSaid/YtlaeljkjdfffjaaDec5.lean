/- code.Decode. -/
import Derived.Test.YtlaeljkjdfffjaaDec4
import Derived.Test.YtlaeljkjdfffjaaMB2
import Derived.Test.YtlaeljkjdfffjaaLaw01c
import Derived.Test.YtlaeljkjdfffjaaMB1
import Derived.Test.YtlaeljkjdfffjaaMB3
namespace Go.Proofs.Ytlaeljkjdfffjaa
open Go.RowKit

/-- The instructions of some codes. -/
def decM : List Tr → Option (List Ins)
  | [] => some []
  | u :: us => match decI u, decM us with
    | some x, some l => some (x :: l)
    | _, _ => none
theorem decM_items : ∀ t : Tr, decL t = decM t.items
  | .nil => rfl
  | .pair u t => by
    rw [decL, Tr.items, decM, decM_items t]
    cases decI u <;> cases decM t.items <;> rfl
theorem decM_len : ∀ {us : List Tr} {l : List Ins}, decM us = some l → l.length = us.length
  | [], l, h => by injection h with h; subst h; rfl
  | u :: us, l, h => by
    rw [decM] at h
    split at h
    · next x m h1 h2 =>
      injection h with h
      subst h
      simp [decM_len h2]
    · cases h
theorem decM_append : ∀ (us vs : List Tr), decM (us ++ vs) = match decM us, decM vs with | some l, some m => some (l ++ m) | _, _ => none
  | [], vs => by show decM vs = _; cases h : decM vs <;> simp [decM]
  | u :: us, vs => by
    rw [List.cons_append, decM, decM_append us vs, decM]
    cases decI u <;> cases decM us <;> cases decM vs <;> simp
theorem decM_one (u : Tr) : decM [u] = (decI u).map fun x => [x] := by
  rw [decM]
  cases decI u <;> simp [decM]
theorem decM_succ {us : List Tr} {k : Nat} {u : Tr} {x : Ins} {L : List Ins} (hu : us[k]? = some u) (hx : decI u = some x) (hL : decM (us.take k) = some L) : decM (us.take (k + 1)) = some (L ++ [x]) := by
  rw [take_snoc' _ _ _ hu, decM_append, hL, decM_one, hx]
  rfl
theorem decM_bad {us : List Tr} {u : Tr} (hu : u ∈ us) (h : decI u = none) : decM us = none := by
  obtain ⟨a, b, rfl⟩ := List.append_of_mem hu
  rw [decM_append, decM, h]
  cases decM a <;> simp
theorem decT_bad {t u : Tr} (hu : u ∈ t.items) (h : decI u = none) : decT t = none := by
  unfold decT
  rw [decM_items, decM_bad hu h]
theorem decT_long {t : Tr} (h : 4000 < t.items.length) : decT t = none := by
  unfold decT
  rw [decM_items]
  cases hl : decM t.items with
  | none => rfl
  | some l =>
    have h1 := decM_len hl
    have h2 : validB l = false := by
      rw [Bool.eq_false_iff]
      intro h3
      have := validB_len h3
      omega
    simp [h2]
theorem decT_get {t : Tr} {l : List Ins} (h : decM t.items = some l) : decT t = if validB l then some l else none := by
  unfold decT
  rw [decM_items, h]
theorem decI_none {u : Tr} (h : (pB (some u) && vB (pH (some u)) && decide (vN (pH (some u)) < 6) && gB (vN (pH (some u))) (pT (some u))) = false) : decI u = none := by
  rw [decI_g, h]; rfl
theorem decI_some {u : Tr} (h : (pB (some u) && vB (pH (some u)) && decide (vN (pH (some u)) < 6) && gB (vN (pH (some u))) (pT (some u))) = true) : decI u = some (gI (vN (pH (some u))) (pT (some u))) := by
  rw [decI_g, h]; rfl
theorem items_small {t u : Tr} (ht : t.size ≤ 2000000) (hu : u ∈ t.items) : SmallO (some u) := by
  intro v hv
  injection hv with hv
  subst hv
  have := items_size_le t u hu
  omega
theorem Boxed.below {A0 A B : World} {g : Nat} {cs : Array Value} (h : Boxed A B g cs) (hb : Below A0.heap.size A0 A) (hg : A0.heap.size = g) : Below A0.heap.size A0 B := by
  refine ⟨h.os.trans hb.os, h.tape.trans hb.tape, h.output.trans hb.output, Nat.le_trans hb.size h.size, fun k hk => ?_⟩
  rw [h.rest k (Nat.lt_of_lt_of_le hk hb.size) (by omega)]
  exact hb.block k hk
theorem field1 (f g : Value) (w : World) : (Instr.field 134 (.agg #[f, g]) 1).run Try.prog w = .ok g w := by
  simp [Instr.field, go_sem, part, asAgg]
/-- What Decode leaves. -/
def DecOut (w : World) (t : Tr) (e : Ending) (w' : World) : Prop :=
  Below w.heap.size w w' ∧ ((∃ l v, decT t = some l ∧ e = .returned (.tuple #[v, .int .i64 0]) ∧ OwnI w' w.heap.size v l) ∨ (decT t = none ∧ e = .returned (.tuple #[.slice none 0 0, .int .i64 4])))
theorem DecOut.bad {w w' : World} {t : Tr} {e : Ending} (h : decT t = none) (he : e = .returned (.tuple #[.slice none 0 0, .int .i64 4])) (hb : Below w.heap.size w w') : DecOut w t e w' := ⟨hb, .inr ⟨h, he⟩⟩
theorem DecOut.ok {w w' : World} {t : Tr} {e : Ending} {l : List Ins} {v : Value} (h : decT t = some l) (he : e = .returned (.tuple #[v, .int .i64 0])) (hr : OwnI w' w.heap.size v l) (hb : Below w.heap.size w w') : DecOut w t e w' := ⟨hb, .inl ⟨l, v, h, he, hr⟩⟩
theorem fin8 {A B C : World} (h : Below A.heap.size A B) (k : Below B.heap.size B C) : Below A.heap.size A C := h.trans (k.mono h.size)
set_option maxRecDepth 20000 in
set_option maxHeartbeats 8000000 in
theorem decode_any (t : Tr) (ht : t.size ≤ 2000000) (w : World) : Calls Try.prog 45 #[.string (TS t)] w (DecOut w t) := by
  have ki := Lib.hid (fun w => items_row t ht w)
  have HU := Lib.hid (fun u (hu : u ∈ t.items) => items_small ht hu)
  have HBAD := Lib.hid (fun u (hu : u ∈ t.items) => decT_bad hu)
  have HLONG := Lib.hid (decT_long (t := t))
  have HGET := Lib.hid (fun l => decT_get (t := t) (l := l))
  obtain ⟨us, hus⟩ : ∃ us, t.items = us := ⟨_, rfl⟩
  rw [hus] at ki HU HBAD HLONG HGET
  clear hus ht
  generalize TS t = s0 at *
  go_enter Try.func45, Try.ntmps45
  go_wp2_with fail
  refine (ki.out _).mono ?_
  rintro e w1 ⟨v, rfl, hrow, hb1⟩
  obtain ⟨ao, cap, rfl⟩ := hrow.len
  have hn5 := hrow.2.1
  obtain ⟨n, hn⟩ : ∃ n, us.length = n := ⟨_, rfl⟩
  rw [List.length_map, hn] at hn5
  rw [List.length_map, hn] at hrow ⊢
  have HROW := Lib.hid hrow
  have HB := Lib.hid hb1
  have HN := Lib.hid hn
  clear hrow hb1 ki hn
  have hnI : (n : Int) ≤ 4611686018427387904 := by omega
  by_cases h4 : 4000 < n
  · have h4I : (4000 : Int) < n := by omega
    have HL := Lib.hid (HLONG.out (by rw [HN.out]; exact h4))
    clear h4 hnI hn5
    go_wp2
    go_ret2
    exact DecOut.bad HL.out rfl HB.out
  have h4I : ¬ (4000 : Int) < n := by omega
  have hn4 : n ≤ 4000 := by omega
  clear h4 hnI hn5
  go_wp2
  clear h4I
  go_loopg [6, 28] n (fun gg p i wr => ∃ (k : Nat) (L : List Ins), k ≤ n ∧ gg = n - k ∧ i = .int .i64 (k : Int) ∧ L.length = k ∧ Hid (decM (us.take k) = some L) ∧ Hid (OwnI wr w1.heap.size p L) ∧ Hid (Below w1.heap.size w1 wr))
  case atStart => exact ⟨0, [], by omega, rfl, rfl, rfl, Lib.hid rfl, Lib.hid (OwnI.nil _ _), Lib.hid (Below.refl _ _)⟩
  case round =>
    obtain ⟨k, L, hk, hgg, rfl, hLk, hD, hO, hb⟩ := hrel
    have HGG := Lib.hid hgg; clear hgg
    obtain ⟨oa, oc, rfl⟩ := hO.out.slice
    rw [hLk] at hO ⊢
    have HLK := Lib.hid hLk
    clear hLk
    have hkI : (0 : Int) ≤ k := by omega
    by_cases hlt : k < n
    · obtain ⟨u, hu⟩ : ∃ u, us[k]? = some u := ⟨_, List.getElem?_eq_getElem (by rw [HN.out]; exact hlt)⟩
      have hum : u ∈ us := List.mem_of_getElem? hu
      have hus := HU.out u hum
      have hrw := HROW.out.below hb.out
      obtain ⟨g, off, rfl, hg, c0⟩ := hrw.get (k := k) (s := TS u) (by rw [List.getElem?_map, hu]; rfl)
      have hkI2 : (k : Int) < n := by omega
      have kp := Lib.hid (fun w => cpair_any (some u) hus w)
      have kv := Lib.hid (fun w => cvalue_any (pH (some u)) hus.hd w)
      have hN := vN_le hus.hd
      have hBAD := Lib.hid (HBAD.out u hum)
      have hNO := Lib.hid (decI_none (u := u))
      have hYE := Lib.hid (decI_some (u := u))
      have hWF := Lib.hid (gI_wf hN hus.tl)
      have hGT := Lib.hid (fun h6 => getter (vN (pH (some u))) h6 (pT (some u)) hus.tl)
      have hSU := Lib.hid (fun x hx => decM_succ (us := us) (k := k) (u := u) (x := x) (L := L) hu hx hD.out)
      have hSd : OT (some u) = TS u := rfl
      rw [hSd] at kp
      clear hSd
      generalize pB (some u) = b1 at *
      generalize vB (pH (some u)) = b2 at *
      generalize vN (pH (some u)) = m at *
      generalize OT (pH (some u)) = t1 at *
      obtain ⟨t2, ht2⟩ : ∃ t2, OT (pT (some u)) = t2 := ⟨_, rfl⟩
      rw [ht2] at kp
      have HT2 := Lib.hid ht2
      clear ht2 hum hus hrw hu HBAD
      generalize TS u = s at *
      go_wp2_with fail
      refine (kp.out _).mono ?_
      rintro e w2 ⟨rfl, hq2⟩
      go_wp2_with fail
      refine (kv.out _).mono ?_
      rintro e w3 ⟨rfl, hq3⟩
      have HQ := Lib.hid (hq2.trans (hq3.mono hq2.size))
      clear hq2 hq3 kp kv c0 hg
      have HB3 := Lib.hid (hb.out.trans (HQ.out.mono hb.out.size))
      have HO3 := Lib.hid (hO.out.below HQ.out)
      clear hb hO HQ
      have hmI : (0 : Int) ≤ m ∧ (m : Int) ≤ 1000000 := by omega
      cases b1 with
      | false =>
        have HX := Lib.hid (hBAD.out (hNO.out (by simp)))
        have hba := Lib.hid (fin8 HB.out (HB3.out.alloc HB3.out.size (.cells #[.int .i64 m, .int .i64 0, .int .i64 0, .int .i64 0, .string ⟨#[]⟩] 41)))
        clear hN
        go_wp2
        go_ret2
        exact DecOut.bad HX.out rfl hba.out
      | true =>
        cases b2 with
        | false =>
          have HX := Lib.hid (hBAD.out (hNO.out (by simp)))
          have hba := Lib.hid (fin8 HB.out (HB3.out.alloc HB3.out.size (.cells #[.int .i64 m, .int .i64 0, .int .i64 0, .int .i64 0, .string ⟨#[]⟩] 41)))
          clear hN
          go_wp2
          go_ret2
          exact DecOut.bad HX.out rfl hba.out
        | true =>
          by_cases h6 : m < 6
          · have h6I : ¬ (6 : Int) ≤ m := by omega
            obtain ⟨GF, kf, hent, kg⟩ := hGT.out h6
            have KF := Lib.hid kf
            have KG := Lib.hid kg
            rw [HT2.out] at KG
            obtain ⟨gb, hgb⟩ : ∃ gb, gB m (pT (some u)) = gb := ⟨_, rfl⟩
            obtain ⟨x, hx⟩ : ∃ x, gI m (pT (some u)) = x := ⟨_, rfl⟩
            rw [hgb] at KG hNO hYE
            rw [hx] at KG hYE hWF
            obtain ⟨xo, xa, xb, xc, xt⟩ := x
            have H6 := Lib.hid h6
            clear kf kg hGT hgb hx h6 HT2 hN
            go_wp2_with fail
            obtain ⟨w4, hW⟩ : ∃ B, w3.alloc (.cells #[.int .i64 m, .int .i64 0, .int .i64 0, .int .i64 0, .string ⟨#[]⟩] 41) = B := ⟨_, rfl⟩
            have hq4 : Below w3.heap.size w3 w4 := by rw [← hW]; exact (Below.refl _ _).alloc (Nat.le_refl _) _
            have hx4 : w4.heap[w3.heap.size]? = some (.cells #[.int .i64 m, .int .i64 0, .int .i64 0, .int .i64 0, .string ⟨#[]⟩] 41 (0, 0)) := by rw [← hW]; exact heap_alloc_new _ _
            rw [hW]
            clear hW
            obtain ⟨bx, hbx⟩ : ∃ z, w3.heap.size = z := ⟨_, rfl⟩
            have HBX := Lib.hid hbx
            rw [hbx] at hx4 ⊢
            have HQ4 := Lib.hid hq4
            have HX4 := Lib.hid hx4
            clear hq4 hx4 hbx
            refine (KF.out _).mono ?_
            rintro e w5 ⟨f, rfl, hq5⟩
            have HX5 := Lib.hid (blk_lift hq5 HX4.out)
            have HQ5 := Lib.hid (HQ4.out.trans (hq5.mono HQ4.out.size))
            clear hq5 HX4 HQ4 KF
            have hfld := fun w => field1 f (.func (.func GF) #[] #[]) w
            go_wp2_with fail
            refine (KG.out _ _ HX5.out).mono ?_
            rintro e w6 ⟨rfl, hq6⟩
            have HQ6 := Lib.hid (hq6.below HQ5.out HBX.out)
            obtain ⟨hcell, _⟩ := block_cells hq6.box
            have c0 := hcell 0
            have c1 := hcell 1
            have c2 := hcell 2
            have c3 := hcell 3
            have c4 := hcell 4
            simp only [List.getElem?_toArray, List.getElem?_cons_succ, List.getElem?_cons_zero] at c0 c1 c2 c3 c4
            have HB6 := Lib.hid (HB3.out.trans (HQ6.out.mono HB3.out.size))
            have ho6 := HO3.out.below HQ6.out
            have hb6 := HB6.out
            clear hq6 HQ5 HQ6 HX5 KG HB3 HO3 hcell
            cases gb with
            | false =>
              have HX := Lib.hid (hBAD.out (hNO.out (by simp)))
              clear c0 c1 c2 c3 c4 ho6 hb6
              go_wp2
              go_ret2
              exact DecOut.bad HX.out rfl (fin8 HB.out HB6.out)
            | true =>
              have hx := hYE.out (by simp [H6.out])
              have HS := Lib.hid (hSU.out _ hx)
              clear hx hYE hNO hSU hBAD
              go_wp2_with (at_builtin; refine app_lit rfl _ _ rfl (v := .slice oa k oc) (n := 1) [(⟨xo, xa, xb, xc, xt⟩ : Ins)] rfl ho6 rfl rfl ?c1 ?c2 hb6 ?_)
              case c1 => simp; exact hWF.out
              case c2 => rw [HLK.out]; omega
              clear ho6 hb6 c0 c1 c2 c3 c4
              intro a' k' s' w7 hk7 ho hb
              have hL7 : (L ++ [(⟨xo, xa, xb, xc, xt⟩ : Ins)]).length = k + 1 := by rw [List.length_append, HLK.out]; rfl
              have hk2 : k' = k + 1 := by rw [hk7.out, HLK.out]
              have HK2 := Lib.hid hk2
              have HL7 := Lib.hid hL7
              clear hk2 hL7 hk7
              go_wp2
              go_roundg (n - (k + 1))
              case measure => rw [HGG.out]; omega
              case rel => exact ⟨k + 1, _, by omega, rfl, by go_num, HL7.out, HS, ho, hb⟩
          · have h6I : (6 : Int) ≤ m := by omega
            have HX := Lib.hid (hBAD.out (hNO.out (by simp [h6])))
            have hba := Lib.hid (fin8 HB.out (HB3.out.alloc HB3.out.size (.cells #[.int .i64 m, .int .i64 0, .int .i64 0, .int .i64 0, .string ⟨#[]⟩] 41)))
            clear hN h6
            go_wp2
            go_ret2
            exact DecOut.bad HX.out rfl hba.out
    · have hkn : k = n := by omega
      subst hkn
      have hD2 := hD.out
      rw [List.take_of_length_le (by rw [HN.out]; exact Nat.le_refl _)] at hD2
      have hG := Lib.hid (HGET.out L hD2)
      have hrow : InsRow wr wr.heap.size (.slice oa k oc) L := hO.out.row (by rw [HLK.out]; omega)
      have hv := Lib.hid (fun w' (hq : Below wr.heap.size wr w') => codeValidP_at _ L w' ((hrow.below hq).mono hq.size) _ rfl)
      have HR := hO
      obtain ⟨vb, hvb⟩ : ∃ vb, validB L = vb := ⟨_, rfl⟩
      rw [hvb] at hv hG
      clear hrow hvb hD hD2 hlt
      go_wp2_with fail
      refine (hv.out _ (Below.refl _ _)).mono ?_
      rintro e w2 ⟨rfl, hq⟩
      have HB2 := Lib.hid (hb.out.trans (hq.mono hb.out.size))
      have HR2 := Lib.hid ((HR.out.below hq).lower HB.out.size)
      clear hq hb hv HR hO
      cases vb with
      | false =>
        go_wp2
        go_ret2
        exact DecOut.bad hG.out rfl (fin8 HB.out HB2.out)
      | true =>
        go_wp2
        go_ret2
        exact DecOut.ok hG.out rfl HR2.out (fin8 HB.out HB2.out)
end Go.Proofs.Ytlaeljkjdfffjaa


/- code.Decode. order.least, Next. order.Programs. narcissuslaw10: before, awake. -/
import Derived.Test.YtdjbcmfjlfkcjaaMB3
import Derived.Test.YtdjbcmfjlfkcjaaMB2
import Derived.Test.YtdjbcmfjlfkcjaaMB1
namespace Go.Proofs.Ytdjbcmfjlfkcjaa
open Go.RowKit

/-- The instructions of some codes. -/
def decM : List Tr → Option (List Ins)
  | [] => some []
  | u :: us => match decI u, decM us with
    | some x, some l => some (x :: l)
    | _, _ => none
theorem decM_items : ∀ t : Tr, decL t = decM t.items
  | .nil => rfl
  | .pair u t => by
    rw [decL, Tr.items, decM, decM_items t]
    cases decI u <;> cases decM t.items <;> rfl
theorem decM_len : ∀ {us : List Tr} {l : List Ins}, decM us = some l → l.length = us.length
  | [], l, h => by injection h with h; subst h; rfl
  | u :: us, l, h => by
    rw [decM] at h
    split at h
    · next x m h1 h2 =>
      injection h with h
      subst h
      simp [decM_len h2]
    · cases h
theorem decM_append : ∀ (us vs : List Tr), decM (us ++ vs) = match decM us, decM vs with | some l, some m => some (l ++ m) | _, _ => none
  | [], vs => by show decM vs = _; cases h : decM vs <;> simp [decM]
  | u :: us, vs => by
    rw [List.cons_append, decM, decM_append us vs, decM]
    cases decI u <;> cases decM us <;> cases decM vs <;> simp
theorem decM_one (u : Tr) : decM [u] = (decI u).map fun x => [x] := by
  rw [decM]
  cases decI u <;> simp [decM]
theorem decM_succ {us : List Tr} {k : Nat} {u : Tr} {x : Ins} {L : List Ins} (hu : us[k]? = some u) (hx : decI u = some x) (hL : decM (us.take k) = some L) : decM (us.take (k + 1)) = some (L ++ [x]) := by
  rw [take_snoc' _ _ _ hu, decM_append, hL, decM_one, hx]
  rfl
theorem decM_bad {us : List Tr} {u : Tr} (hu : u ∈ us) (h : decI u = none) : decM us = none := by
  obtain ⟨a, b, rfl⟩ := List.append_of_mem hu
  rw [decM_append, decM, h]
  cases decM a <;> simp
theorem decT_bad {t u : Tr} (hu : u ∈ t.items) (h : decI u = none) : decT t = none := by
  unfold decT
  rw [decM_items, decM_bad hu h]
theorem decT_long {t : Tr} (h : 4000 < t.items.length) : decT t = none := by
  unfold decT
  rw [decM_items]
  cases hl : decM t.items with
  | none => rfl
  | some l =>
    have h1 := decM_len hl
    have h2 : validB l = false := by
      rw [Bool.eq_false_iff]
      intro h3
      have := validB_len h3
      omega
    simp [h2]
theorem decT_get {t : Tr} {l : List Ins} (h : decM t.items = some l) : decT t = if validB l then some l else none := by
  unfold decT
  rw [decM_items, h]
theorem decI_none {u : Tr} (h : (pB (some u) && vB (pH (some u)) && decide (vN (pH (some u)) < 6) && gB (vN (pH (some u))) (pT (some u))) = false) : decI u = none := by
  rw [decI_g, h]; rfl
theorem decI_some {u : Tr} (h : (pB (some u) && vB (pH (some u)) && decide (vN (pH (some u)) < 6) && gB (vN (pH (some u))) (pT (some u))) = true) : decI u = some (gI (vN (pH (some u))) (pT (some u))) := by
  rw [decI_g, h]; rfl
theorem items_small {t u : Tr} (ht : t.size ≤ 2000000) (hu : u ∈ t.items) : SmallO (some u) := by
  intro v hv
  injection hv with hv
  subst hv
  have := items_size_le t u hu
  omega
theorem Boxed.below {A0 A B : World} {g : Nat} {cs : Array Value} (h : Boxed A B g cs) (hb : Below A0.heap.size A0 A) (hg : A0.heap.size = g) : Below A0.heap.size A0 B := by
  refine ⟨h.os.trans hb.os, h.tape.trans hb.tape, h.output.trans hb.output, Nat.le_trans hb.size h.size, fun k hk => ?_⟩
  rw [h.rest k (Nat.lt_of_lt_of_le hk hb.size) (by omega)]
  exact hb.block k hk
theorem field1 (f g : Value) (w : World) : (Instr.field 156 (.agg #[f, g]) 1).run Try.prog w = .ok g w := by
  simp [Instr.field, go_sem, part, asAgg]
/-- What Decode leaves. -/
def DecOut (w : World) (t : Tr) (e : Ending) (w' : World) : Prop :=
  Below w.heap.size w w' ∧ ((∃ l v, decT t = some l ∧ e = .returned (.tuple #[v, .int .i64 0]) ∧ OwnI w' w.heap.size v l) ∨ (decT t = none ∧ e = .returned (.tuple #[.slice none 0 0, .int .i64 4])))
theorem DecOut.bad {w w' : World} {t : Tr} {e : Ending} (h : decT t = none) (he : e = .returned (.tuple #[.slice none 0 0, .int .i64 4])) (hb : Below w.heap.size w w') : DecOut w t e w' := ⟨hb, .inr ⟨h, he⟩⟩
theorem DecOut.ok {w w' : World} {t : Tr} {e : Ending} {l : List Ins} {v : Value} (h : decT t = some l) (he : e = .returned (.tuple #[v, .int .i64 0])) (hr : OwnI w' w.heap.size v l) (hb : Below w.heap.size w w') : DecOut w t e w' := ⟨hb, .inl ⟨l, v, h, he, hr⟩⟩
theorem fin8 {A B C : World} (h : Below A.heap.size A B) (k : Below B.heap.size B C) : Below A.heap.size A C := h.trans (k.mono h.size)
set_option maxRecDepth 20000 in
set_option maxHeartbeats 8000000 in
theorem decode_any (t : Tr) (ht : t.size ≤ 2000000) (w : World) : Calls Try.prog 88 #[.string (TS t)] w (DecOut w t) := by
  have ki := Lib.hid (fun w => items_row t ht w)
  have HU := Lib.hid (fun u (hu : u ∈ t.items) => items_small ht hu)
  have HBAD := Lib.hid (fun u (hu : u ∈ t.items) => decT_bad hu)
  have HLONG := Lib.hid (decT_long (t := t))
  have HGET := Lib.hid (fun l => decT_get (t := t) (l := l))
  obtain ⟨us, hus⟩ : ∃ us, t.items = us := ⟨_, rfl⟩
  rw [hus] at ki HU HBAD HLONG HGET
  clear hus ht
  generalize TS t = s0 at *
  go_enter Try.func88, Try.ntmps88
  go_wp2_with fail
  refine (ki.out _).mono ?_
  rintro e w1 ⟨v, rfl, hrow, hb1⟩
  obtain ⟨ao, cap, rfl⟩ := hrow.len
  have hn5 := hrow.2.1
  obtain ⟨n, hn⟩ : ∃ n, us.length = n := ⟨_, rfl⟩
  rw [List.length_map, hn] at hn5
  rw [List.length_map, hn] at hrow ⊢
  have HROW := Lib.hid hrow
  have HB := Lib.hid hb1
  have HN := Lib.hid hn
  clear hrow hb1 ki hn
  have hnI : (n : Int) ≤ 4611686018427387904 := by omega
  by_cases h4 : 4000 < n
  · have h4I : (4000 : Int) < n := by omega
    have HL := Lib.hid (HLONG.out (by rw [HN.out]; exact h4))
    clear h4 hnI hn5
    go_wp2
    go_ret2
    exact DecOut.bad HL.out rfl HB.out
  have h4I : ¬ (4000 : Int) < n := by omega
  have hn4 : n ≤ 4000 := by omega
  clear h4 hnI hn5
  go_wp2
  clear h4I
  go_loopg [6, 28] n (fun gg p i wr => ∃ (k : Nat) (L : List Ins), k ≤ n ∧ gg = n - k ∧ i = .int .i64 (k : Int) ∧ L.length = k ∧ Hid (decM (us.take k) = some L) ∧ Hid (OwnI wr w1.heap.size p L) ∧ Hid (Below w1.heap.size w1 wr))
  case atStart => exact ⟨0, [], by omega, rfl, rfl, rfl, Lib.hid rfl, Lib.hid (OwnI.nil _ _), Lib.hid (Below.refl _ _)⟩
  case round =>
    obtain ⟨k, L, hk, hgg, rfl, hLk, hD, hO, hb⟩ := hrel
    have HGG := Lib.hid hgg; clear hgg
    obtain ⟨oa, oc, rfl⟩ := hO.out.slice
    rw [hLk] at hO ⊢
    have HLK := Lib.hid hLk
    clear hLk
    have hkI : (0 : Int) ≤ k := by omega
    by_cases hlt : k < n
    · obtain ⟨u, hu⟩ : ∃ u, us[k]? = some u := ⟨_, List.getElem?_eq_getElem (by rw [HN.out]; exact hlt)⟩
      have hum : u ∈ us := List.mem_of_getElem? hu
      have hus := HU.out u hum
      have hrw := HROW.out.below hb.out
      obtain ⟨g, off, rfl, hg, c0⟩ := hrw.get (k := k) (s := TS u) (by rw [List.getElem?_map, hu]; rfl)
      have hkI2 : (k : Int) < n := by omega
      have kp := Lib.hid (fun w => cpair_any (some u) hus w)
      have kv := Lib.hid (fun w => cvalue_any (pH (some u)) hus.hd w)
      have hN := vN_le hus.hd
      have hBAD := Lib.hid (HBAD.out u hum)
      have hNO := Lib.hid (decI_none (u := u))
      have hYE := Lib.hid (decI_some (u := u))
      have hWF := Lib.hid (gI_wf hN hus.tl)
      have hGT := Lib.hid (fun h6 => getter (vN (pH (some u))) h6 (pT (some u)) hus.tl)
      have hSU := Lib.hid (fun x hx => decM_succ (us := us) (k := k) (u := u) (x := x) (L := L) hu hx hD.out)
      have hSd : OT (some u) = TS u := rfl
      rw [hSd] at kp
      clear hSd
      generalize pB (some u) = b1 at *
      generalize vB (pH (some u)) = b2 at *
      generalize vN (pH (some u)) = m at *
      generalize OT (pH (some u)) = t1 at *
      obtain ⟨t2, ht2⟩ : ∃ t2, OT (pT (some u)) = t2 := ⟨_, rfl⟩
      rw [ht2] at kp
      have HT2 := Lib.hid ht2
      clear ht2 hum hus hrw hu HBAD
      generalize TS u = s at *
      go_wp2_with fail
      refine (kp.out _).mono ?_
      rintro e w2 ⟨rfl, hq2⟩
      go_wp2_with fail
      refine (kv.out _).mono ?_
      rintro e w3 ⟨rfl, hq3⟩
      have HQ := Lib.hid (hq2.trans (hq3.mono hq2.size))
      clear hq2 hq3 kp kv c0 hg
      have HB3 := Lib.hid (hb.out.trans (HQ.out.mono hb.out.size))
      have HO3 := Lib.hid (hO.out.below HQ.out)
      clear hb hO HQ
      have hmI : (0 : Int) ≤ m ∧ (m : Int) ≤ 1000000 := by omega
      cases b1 with
      | false =>
        have HX := Lib.hid (hBAD.out (hNO.out (by simp)))
        have hba := Lib.hid (fin8 HB.out (HB3.out.alloc HB3.out.size (.cells #[.int .i64 m, .int .i64 0, .int .i64 0, .int .i64 0, .string ⟨#[]⟩] 75)))
        clear hN
        go_wp2
        go_ret2
        exact DecOut.bad HX.out rfl hba.out
      | true =>
        cases b2 with
        | false =>
          have HX := Lib.hid (hBAD.out (hNO.out (by simp)))
          have hba := Lib.hid (fin8 HB.out (HB3.out.alloc HB3.out.size (.cells #[.int .i64 m, .int .i64 0, .int .i64 0, .int .i64 0, .string ⟨#[]⟩] 75)))
          clear hN
          go_wp2
          go_ret2
          exact DecOut.bad HX.out rfl hba.out
        | true =>
          by_cases h6 : m < 6
          · have h6I : ¬ (6 : Int) ≤ m := by omega
            obtain ⟨GF, kf, hent, kg⟩ := hGT.out h6
            have KF := Lib.hid kf
            have KG := Lib.hid kg
            rw [HT2.out] at KG
            obtain ⟨gb, hgb⟩ : ∃ gb, gB m (pT (some u)) = gb := ⟨_, rfl⟩
            obtain ⟨x, hx⟩ : ∃ x, gI m (pT (some u)) = x := ⟨_, rfl⟩
            rw [hgb] at KG hNO hYE
            rw [hx] at KG hYE hWF
            obtain ⟨xo, xa, xb, xc, xt⟩ := x
            have H6 := Lib.hid h6
            clear kf kg hGT hgb hx h6 HT2 hN
            go_wp2_with fail
            obtain ⟨w4, hW⟩ : ∃ B, w3.alloc (.cells #[.int .i64 m, .int .i64 0, .int .i64 0, .int .i64 0, .string ⟨#[]⟩] 75) = B := ⟨_, rfl⟩
            have hq4 : Below w3.heap.size w3 w4 := by rw [← hW]; exact (Below.refl _ _).alloc (Nat.le_refl _) _
            have hx4 : w4.heap[w3.heap.size]? = some (.cells #[.int .i64 m, .int .i64 0, .int .i64 0, .int .i64 0, .string ⟨#[]⟩] 75 (0, 0)) := by rw [← hW]; exact heap_alloc_new _ _
            rw [hW]
            clear hW
            obtain ⟨bx, hbx⟩ : ∃ z, w3.heap.size = z := ⟨_, rfl⟩
            have HBX := Lib.hid hbx
            rw [hbx] at hx4 ⊢
            have HQ4 := Lib.hid hq4
            have HX4 := Lib.hid hx4
            clear hq4 hx4 hbx
            refine (KF.out _).mono ?_
            rintro e w5 ⟨f, rfl, hq5⟩
            have HX5 := Lib.hid (blk_lift hq5 HX4.out)
            have HQ5 := Lib.hid (HQ4.out.trans (hq5.mono HQ4.out.size))
            clear hq5 HX4 HQ4 KF
            have hfld := fun w => field1 f (.func (.func GF) #[] #[]) w
            go_wp2_with fail
            refine (KG.out _ _ HX5.out).mono ?_
            rintro e w6 ⟨rfl, hq6⟩
            have HQ6 := Lib.hid (hq6.below HQ5.out HBX.out)
            obtain ⟨hcell, _⟩ := block_cells hq6.box
            have c0 := hcell 0
            have c1 := hcell 1
            have c2 := hcell 2
            have c3 := hcell 3
            have c4 := hcell 4
            simp only [List.getElem?_toArray, List.getElem?_cons_succ, List.getElem?_cons_zero] at c0 c1 c2 c3 c4
            have HB6 := Lib.hid (HB3.out.trans (HQ6.out.mono HB3.out.size))
            have ho6 := HO3.out.below HQ6.out
            have hb6 := HB6.out
            clear hq6 HQ5 HQ6 HX5 KG HB3 HO3 hcell
            cases gb with
            | false =>
              have HX := Lib.hid (hBAD.out (hNO.out (by simp)))
              clear c0 c1 c2 c3 c4 ho6 hb6
              go_wp2
              go_ret2
              exact DecOut.bad HX.out rfl (fin8 HB.out HB6.out)
            | true =>
              have hx := hYE.out (by simp [H6.out])
              have HS := Lib.hid (hSU.out _ hx)
              clear hx hYE hNO hSU hBAD
              go_wp2_with (at_builtin; refine app_lit rfl _ _ rfl (v := .slice oa k oc) (n := 1) [(⟨xo, xa, xb, xc, xt⟩ : Ins)] rfl ho6 rfl rfl ?c1 ?c2 hb6 ?_)
              case c1 => simp; exact hWF.out
              case c2 => rw [HLK.out]; omega
              clear ho6 hb6 c0 c1 c2 c3 c4
              intro a' k' s' w7 hk7 ho hb
              have hL7 : (L ++ [(⟨xo, xa, xb, xc, xt⟩ : Ins)]).length = k + 1 := by rw [List.length_append, HLK.out]; rfl
              have hk2 : k' = k + 1 := by rw [hk7.out, HLK.out]
              have HK2 := Lib.hid hk2
              have HL7 := Lib.hid hL7
              clear hk2 hL7 hk7
              go_wp2
              go_roundg (n - (k + 1))
              case measure => rw [HGG.out]; omega
              case rel => exact ⟨k + 1, _, by omega, rfl, by go_num, HL7.out, HS, ho, hb⟩
          · have h6I : (6 : Int) ≤ m := by omega
            have HX := Lib.hid (hBAD.out (hNO.out (by simp [h6])))
            have hba := Lib.hid (fin8 HB.out (HB3.out.alloc HB3.out.size (.cells #[.int .i64 m, .int .i64 0, .int .i64 0, .int .i64 0, .string ⟨#[]⟩] 75)))
            clear hN h6
            go_wp2
            go_ret2
            exact DecOut.bad HX.out rfl hba.out
    · have hkn : k = n := by omega
      subst hkn
      have hD2 := hD.out
      rw [List.take_of_length_le (by rw [HN.out]; exact Nat.le_refl _)] at hD2
      have hG := Lib.hid (HGET.out L hD2)
      have hrow : InsRow wr wr.heap.size (.slice oa k oc) L := hO.out.row (by rw [HLK.out]; omega)
      have hv := Lib.hid (fun w' (hq : Below wr.heap.size wr w') => codeValidP_at _ L w' ((hrow.below hq).mono hq.size) _ rfl)
      have HR := hO
      obtain ⟨vb, hvb⟩ : ∃ vb, validB L = vb := ⟨_, rfl⟩
      rw [hvb] at hv hG
      clear hrow hvb hD hD2 hlt
      go_wp2_with fail
      refine (hv.out _ (Below.refl _ _)).mono ?_
      rintro e w2 ⟨rfl, hq⟩
      have HB2 := Lib.hid (hb.out.trans (hq.mono hb.out.size))
      have HR2 := Lib.hid ((HR.out.below hq).lower HB.out.size)
      clear hq hb hv HR hO
      cases vb with
      | false =>
        go_wp2
        go_ret2
        exact DecOut.bad hG.out rfl (fin8 HB.out HB2.out)
      | true =>
        go_wp2
        go_ret2
        exact DecOut.ok hG.out rfl HR2.out (fin8 HB.out HB2.out)
end Go.Proofs.Ytdjbcmfjlfkcjaa

namespace Go.Proofs.Ytdjbcmfjlfkcjaa
open Go.RowKit

theorem rep0 (n : Nat) : Lib.repeatL [(48 : UInt8)] n = List.replicate n 48 := by
  induction n with
  | zero => rfl
  | succ n ih => rw [List.replicate_succ, ← ih]; rfl
/-- The first word, as a text. -/
def lstS (k n : Nat) : ByteArray := ⟨(lst k n).toArray⟩
theorem lstS_size (k n : Nat) : (lstS k (n + 1)).size = 2 * k + n + 1 := by
  show (lst k (n + 1)).toArray.size = _
  unfold lst
  simp [rep10_length]
  omega
theorem lstS_cat (k n : Nat) : (⟨(Lib.repeatL [48] n).toArray⟩ ++ ⟨(rep10 k).toArray⟩ ++ ⟨#[48]⟩ : ByteArray) = lstS k (n + 1) := by
  apply ba_ext
  show _ = (lst k (n + 1)).toArray.toList
  rw [rep0]
  unfold lst
  simp
set_option maxRecDepth 20000 in
theorem least_any (k n : Nat) (hk : k ≤ 1000010) (hn : n ≤ 2000010) (p o : Int) (hp : p = k) (ho : o = n + 1) (w : World) :
    Calls Try.prog 85 #[.int .i64 p, .int .i64 o] w fun e w' => e = .returned (.string (lstS k (n + 1))) ∧ Below w.heap.size w w' := by
  subst hp ho
  have hc0 := Lib.hid (fun w => Try.strings_Repeat ⟨#[48]⟩ n w (by omega) (by show 1 * n ≤ _; omega))
  have hc1 := Lib.hid (fun w => Try.strings_Repeat ⟨#[49, 48]⟩ k w (by omega) (by show 2 * k ≤ _; omega))
  have k1 : ∀ w, (Op.stringOp .add ⟨(Lib.repeatL [48] n).toArray⟩ ⟨(rep10 k).toArray⟩).run Try.prog w = .ok (.string (⟨(Lib.repeatL [48] n).toArray⟩ ++ ⟨(rep10 k).toArray⟩)) w := fun w => by
    refine run_string_add_sum w _ _ ?_
    show (Lib.repeatL [48] n).toArray.size + (rep10 k).toArray.size ≤ _
    simp [rep10_length, Lib.repeatL_length]; omega
  have k2 : ∀ w, (Op.stringOp .add (⟨(Lib.repeatL [48] n).toArray⟩ ++ ⟨(rep10 k).toArray⟩) ⟨#[48]⟩).run Try.prog w = .ok (.string (lstS k (n + 1))) w := fun w => by
    rw [← lstS_cat]
    refine run_string_add_sum w _ _ ?_
    rw [ByteArray.size_append]
    show (Lib.repeatL [48] n).toArray.size + (rep10 k).toArray.size + 1 ≤ _
    simp [rep10_length, Lib.repeatL_length]; omega
  have hkI : (k : Int) ≤ 1000010 := by omega
  have hnI : (n : Int) ≤ 2000010 := by omega
  generalize (⟨(Lib.repeatL [48] n).toArray⟩ ++ ⟨(rep10 k).toArray⟩ : ByteArray) = r2 at k1 k2
  generalize lstS k (n + 1) = r3 at k2 ⊢
  have hc1' : Hid (∀ w, Calls Try.prog 113 #[.string ⟨#[49, 48]⟩, .int .i64 k] w fun e w' => e = .returned (.string ⟨(rep10 k).toArray⟩) ∧ Below w.heap.size w w') := hc1
  clear hc1
  generalize (⟨(Lib.repeatL [48] n).toArray⟩ : ByteArray) = r0 at *
  generalize (⟨(rep10 k).toArray⟩ : ByteArray) = r1 at *
  go_enter Try.func85, Try.ntmps85
  go_wp2_with fail
  refine (hc0.out _).mono ?_
  rintro e w1 ⟨rfl, hb1⟩
  go_wp2_with fail
  refine (hc1'.out _).mono ?_
  rintro e w2 ⟨rfl, hb2⟩
  have HB := Lib.hid (hb1.trans (hb2.mono hb1.size))
  clear hb1 hb2 hc0 hc1'
  go_wp2
  go_ret
  exact ⟨rfl, HB.out⟩
theorem Wd.same {p n p' n' : Nat} {l : List UInt8} (h : Wd p n l) (h' : Wd p' n' l) : p = p' ∧ n = n' := by
  obtain ⟨ts, h1, h2, h3⟩ := h.pf
  obtain ⟨ts', h1', h2', h3'⟩ := h'.pf
  rw [h1] at h1'
  injection h1' with h1'
  subst h1'
  omega
theorem nxt_drop {K N : Nat} {L : List UInt8} (h : Wd K N L) : ∀ j, j ≤ L.length → ∃ p n, Wd p n (L.drop j) ∧ (∀ m, nxt n (L.drop j) = some m → nxt N L = some (L.take j ++ m)) := by
  induction h with
  | nil => intro j hj; exact ⟨0, 0, by simpa using Wd.nil, fun m hm => by simp [nxt] at hm⟩
  | @zero k n l hl ih =>
    intro j hj
    cases j with
    | zero => exact ⟨k, n + 1, .zero hl, fun m hm => by simpa using hm⟩
    | succ j =>
      obtain ⟨p, q, h1, h2⟩ := ih j (by simpa using hj)
      refine ⟨p, q, by simpa using h1, fun m hm => ?_⟩
      have h3 := h2 m (by simpa using hm)
      have e : (if (48 : UInt8) = 49 then n + 1 + 1 else n + 1 - 1) = n := by simp
      rw [nxt, e, h3]
      simp
  | @one k n l hl ih =>
    intro j hj
    cases j with
    | zero => exact ⟨k + 1, n + 1, .one hl, fun m hm => by simpa using hm⟩
    | succ j =>
      obtain ⟨p, q, h1, h2⟩ := ih j (by simpa using hj)
      refine ⟨p, q, by simpa using h1, fun m hm => ?_⟩
      have h3 := h2 m (by simpa using hm)
      have e : (if (49 : UInt8) = 49 then n + 1 + 1 else n + 1 - 1) = n + 2 := by simp
      rw [nxt, e, h3]
      simp
theorem tnx_len (t u : Tr) (h : tnx t = u.enc) : (nxt 1 t.enc = none → u.size = t.size + 2) ∧ (∀ m, nxt 1 t.enc = some m → u.size = t.size ∧ u.enc = m) := by
  constructor
  · intro hx
    unfold tnx at h
    rw [hx] at h
    have h1 : u.enc.length = 2 * (t.pairs + 1) + 1 := by rw [← h]; simp [rep10_length]
    rw [Tr.enc_length] at h1
    have := t.size_pairs
    omega
  · intro m hx
    unfold tnx at h
    rw [hx] at h
    have h1 := ((Wd.enc t).next.2 m hx).1.len
    have h2 : m = u.enc := h
    rw [h2, Tr.enc_length] at h1
    have := t.size_pairs
    exact ⟨by omega, h2.symm⟩
theorem next_bad (s : ByteArray) (hs : s.size ≤ 281474976710656) (h : isTree s = false) (w : World) :
    Calls Try.prog 41 #[.string s] w fun e w' => e = .returned (.tuple #[.string ⟨#[]⟩, .int .i64 1]) ∧ Below w.heap.size w w' := by
  have kv := Lib.hid (fun w => valid_bad s hs h w)
  clear h
  go_enter Try.func41, Try.ntmps41
  go_wp2_with fail
  refine (kv.out _).mono ?_
  rintro e w1 ⟨rfl, hb⟩
  go_wp2
  go_ret2
  exact ⟨rfl, hb⟩
/-- What Next returns, and which error. -/
def nextS (u : Tr) : ByteArray := if u.size ≤ 2000000 then TS u else ⟨#[]⟩
def nextE (u : Tr) : Int := if u.size ≤ 2000000 then 0 else 3
theorem nextS_ok {u : Tr} (h : u.size ≤ 2000000) : nextS u = TS u := if_pos h
theorem nextE_ok {u : Tr} (h : u.size ≤ 2000000) : nextE u = 0 := if_pos h
theorem nextS_big {u : Tr} (h : ¬ u.size ≤ 2000000) : nextS u = ⟨#[]⟩ := if_neg h
theorem nextE_big {u : Tr} (h : ¬ u.size ≤ 2000000) : nextE u = 3 := if_neg h
set_option maxRecDepth 20000 in
set_option maxHeartbeats 8000000 in
theorem next_any (t u : Tr) (ht : t.size ≤ 2000000) (hu : tnx t = u.enc) (w : World) :
    Calls Try.prog 41 #[.string (TS t)] w fun e w' => e = .returned (.tuple #[.string (nextS u), .int .i64 (nextE u)]) ∧ Below w.heap.size w w' := by
  have kv := Lib.hid (fun w => valid_ok t ht w)
  have hlen := tnx_len t u hu
  have hts := t.size_pairs
  have hD := nxt_drop (Wd.enc t)
  rw [Tr.enc_length] at hD
  obtain ⟨N, hN⟩ : ∃ N, t.size = N := ⟨_, rfl⟩
  have hsz : (TS t).size = N := by rw [TS_size, hN]
  have hst : (TS t).data.toList = t.enc := TS_list t
  rw [hN] at hD hlen hts ht
  obtain ⟨S, hS⟩ : ∃ S, nextS u = S := ⟨_, rfl⟩
  obtain ⟨E, hE⟩ : ∃ E, nextE u = E := ⟨_, rfl⟩
  rw [hS, hE]
  obtain ⟨s, hs⟩ : ∃ s, TS t = s := ⟨_, rfl⟩
  rw [hs] at kv hsz hst ⊢
  obtain ⟨P, hP⟩ : ∃ P, t.pairs = P := ⟨_, rfl⟩
  rw [hP] at hts
  have hNI : (N : Int) ≤ 2000000 ∧ (1 : Int) ≤ N := by omega
  have HD := Lib.hid hD
  have HLEN := Lib.hid hlen
  have HST := Lib.hid hst
  have HS := Lib.hid hS
  have HE := Lib.hid hE
  have HT := Lib.hid hts
  have HU := Lib.hid hu
  have HP := Lib.hid hP
  clear hD hlen hst hS hE hs hts hu hN hP
  go_enter Try.func41, Try.ntmps41
  go_wp2_with fail
  refine (kv.out _).mono ?_
  rintro e w1 ⟨rfl, hb⟩
  have HB := Lib.hid hb
  clear hb kv
  go_wp2
  go_loopg [4, 5, 6] N (fun gg a b c wr => ∃ (j p n : Nat), j ≤ N ∧ gg = j ∧ a = .int .i64 (p : Int) ∧ b = .int .i64 (n : Int) ∧ c = .int .i64 ((j : Int) - 1) ∧ p ≤ 1000000 ∧ n ≤ 2000000 ∧ Hid (Wd p n (t.enc.drop j)) ∧ Hid (nxt n (t.enc.drop j) = none) ∧ wr = w1)
  case atStart =>
    have hnil : t.enc.drop N = [] := List.drop_eq_nil_of_le (by rw [← HST.out]; simp [hsz])
    exact ⟨N, 0, 0, by omega, rfl, rfl, rfl, rfl, by omega, by omega, Lib.hid (by rw [hnil]; exact .nil), Lib.hid (by rw [hnil]; rfl), rfl⟩
  case round =>
    obtain ⟨j, p, n, hj, hgg, rfl, rfl, rfl, hp, hn, hWd, hNx, hwr⟩ := hrel
    have HGG := Lib.hid hgg; clear hgg
    subst hwr
    have hl2 := Lib.hid (show 2 * p + n = N - j by
      have h1 := hWd.out.len
      rw [List.length_drop, Tr.enc_length] at h1
      have h3 : t.size = N := by rw [← Tr.enc_length, ← HST.out]; simpa using hsz
      omega)
    cases j with
    | zero =>
      have hx : nxt 1 t.enc = none := by
        have h1 := hNx.out
        have h2 := hWd.out
        rw [List.drop_zero] at h1 h2
        rw [← ((Wd.enc t).same h2).2] at h1
        exact h1
      have hun := HLEN.out.1 hx
      have htn : u.enc = lst (P + 1) 1 := by
        rw [← HU.out, ← HP.out]
        unfold tnx lst
        rw [hx]
        simp
      have huS : TS u = lstS (P + 1) (0 + 1) := by unfold TS lstS; rw [htn]
      have kl := Lib.hid (fun w => least_any (P + 1) 0 (by have := HT.out; omega) (by omega) ((P : Int) + 1) 1 (by omega) (by omega) w)
      have hsz3 : (lstS (P + 1) (0 + 1)).size = N + 2 := by rw [lstS_size]; have := HT.out; omega
      generalize lstS (P + 1) (0 + 1) = r at kl huS hsz3
      have hdiv : (s.size : Int) / 2 = P := by have := HT.out; omega
      have hsI : (s.size : Int) ≤ 2000000 := by omega
      have hpI : (P : Int) ≤ 1000000 := by have := HT.out; omega
      have hz0 : ¬ (0 : Int) ≤ ((0 : Nat) : Int) - 1 := by omega
      have HUN := Lib.hid hun
      have HUS := Lib.hid huS
      clear hWd hNx hx htn hun huS hsz hl2 hNI
      go_wp2_with fail
      refine (kl.out _).mono ?_
      rintro e w2 ⟨rfl, hb2⟩
      clear hdiv hsI hpI hz0
      have hB2 := HB.out.trans (hb2.mono HB.out.size)
      have HB2 := Lib.hid hB2
      clear hB2 hb2
      have hrI : (r.size : Int) = (N : Int) + 2 := by omega
      by_cases hbig : (N : Int) + 2 ≤ 2000000
      · have hr1 : ¬ (2000000 : Int) < r.size := by omega
        have hu1 : u.size ≤ 2000000 := by have := HUN.out; omega
        have HU1 := Lib.hid hu1
        clear hrI hbig hu1 hsz3
        go_wp2
        go_ret2
        refine ⟨?_, HB2.out⟩
        rw [← HS.out, ← HE.out, ← HUS.out, nextS_ok HU1.out, nextE_ok HU1.out]
        rfl
      · have hr1 : (2000000 : Int) < r.size := by omega
        have hu1 : ¬ u.size ≤ 2000000 := by have := HUN.out; omega
        have HU1 := Lib.hid hu1
        clear hrI hbig hu1 hsz3
        go_wp2
        go_ret2
        refine ⟨?_, HB2.out⟩
        rw [← HS.out, ← HE.out, nextS_big HU1.out, nextE_big HU1.out]
        rfl
    | succ i =>
      have hiS : i < s.size := by omega
      obtain ⟨p', n', hW', hM⟩ := HD.out i (by omega)
      have hdc := drop_cons s i hiS
      rw [HST.out] at hdc
      rw [hdc] at hW' hM
      obtain ⟨c, hc⟩ : ∃ c, s[i] = c := ⟨_, rfl⟩
      have HC := Lib.hid hc
      rw [hc] at hW' hM hdc
      have hiI : (i : Int) < s.size ∧ (0 : Int) ≤ i := by omega
      have hsb : (s.size : Int) ≤ 2000000 := by omega
      have hpb : (p : Int) ≤ 1000000 ∧ (n : Int) ≤ 2000000 := by omega
      have hl3 := hl2.out
      cases hW' with
      | @zero _ n' _ hW3 =>
        obtain ⟨rfl, rfl⟩ := hW3.same hWd.out
        have b9 : ((s[i].toNat : Int) == 49) = false := by rw [hc]; rfl
        have HM := Lib.hid hM
        have HDC := Lib.hid hdc
        have hones := hWd.out.ones
        have HL3 := Lib.hid hl3
        clear hW3 hM hdc hc hl3
        cases p' with
        | zero =>
          go_wp2
          go_roundg i
          case measure => rw [HGG.out]; omega
          case rel =>
            refine ⟨i, 0, n' + 1, by omega, rfl, rfl, by go_num, by go_num, by omega, by have := HL3.out; omega, Lib.hid (by rw [HDC.out]; exact .zero hWd.out), Lib.hid ?_, rfl⟩
            rw [HDC.out, nxt, show (if (48 : UInt8) = 49 then n' + 1 + 1 else n' + 1 - 1) = n' by simp, hNx.out, hones]
            simp
        | succ p =>
          have hnx : nxt (n' + 1) (48 :: t.enc.drop (i + 1)) = some (49 :: lst p (n' + 2)) := by
            rw [nxt, show (if (48 : UInt8) = 49 then n' + 1 + 1 else n' + 1 - 1) = n' by simp, hNx.out, hones]
            simp
          have hall := HM.out _ hnx
          obtain ⟨hun, hue⟩ := HLEN.out.2 _ hall
          have kl := Lib.hid (fun w => least_any p (n' + 1) (by omega) (by omega) (IntKind.i64.wrap (p : Int)) (IntKind.i64.wrap ((n' : Int) + 1 + 1)) (IntWalk.i64_in _ (by omega)) (by rw [IntWalk.i64_in _ (by omega)]; omega) w)
          have huS : TS u = s.extract 0 i ++ ⟨#[49]⟩ ++ lstS p (n' + 1 + 1) := by
            apply ba_ext
            rw [TS_list, hue]
            rw [ByteArray.data_append, ByteArray.data_append, Array.toList_append, Array.toList_append, ByteArray.data_extract]
            have h4 : (s.data.extract 0 i).toList = t.enc.take i := by rw [← HST.out]; simp
            rw [h4]
            show _ = _ ++ [49] ++ (lst p (n' + 2)).toArray.toList
            simp
          have k1 : ∀ w, (Op.stringOp .add (s.extract 0 i) ⟨#[49]⟩).run Try.prog w = .ok (.string (s.extract 0 i ++ ⟨#[49]⟩)) w := fun w => by
            refine run_string_add_sum w _ _ ?_
            show (s.extract 0 i).size + 1 ≤ _
            rw [ByteArray.size_extract]
            omega
          have k2 : ∀ w, (Op.stringOp .add (s.extract 0 i ++ ⟨#[49]⟩) (lstS p (n' + 1 + 1))).run Try.prog w = .ok (.string (TS u)) w := fun w => by
            rw [huS]
            refine run_string_add_sum w _ _ ?_
            rw [ByteArray.size_append, lstS_size]
            show (s.extract 0 i).size + 1 + _ ≤ _
            rw [ByteArray.size_extract]
            omega
          have HUN := Lib.hid hun
          clear hnx hall hue huS hones
          generalize lstS p (n' + 1 + 1) = r at kl k2
          generalize (s.extract 0 i ++ ⟨#[49]⟩ : ByteArray) = r1 at k1 k2
          have hpI : (0 : Int) ≤ p ∧ (p : Int) ≤ 1000000 := by omega
          have hiN : (i : Int) ≤ N := by omega
          have hi0 : (0 : Int) ≤ i := by omega
          have hnI : (0 : Int) ≤ n' ∧ (n' : Int) ≤ 2000000 := by omega
          clear hpb hp hn hj hun
          obtain ⟨tu, htu⟩ : ∃ tu, TS u = tu := ⟨_, rfl⟩
          rw [htu] at k2
          have HTU := Lib.hid htu
          clear htu
          have hiS2 : ¬ s.size < i := by omega
          have k0 : ∀ w, (Instr.slice 9 (.string s) none (some (.int .i64 (i : Int))) none).run Try.prog w = .ok (.string (s.extract 0 i)) w := fun w => by
            simp [Instr.slice, Instr.sliceBounds, Instr.sliceBound, go_sem, hi0, hiS2]
          generalize s.extract 0 i = r0 at k0 k1
          clear hsz hiN hsb hl2
          go_wp2
          go_region_held3 (fun _ => True) (with_reducible exact True.intro) ((first | ((with_reducible refine (kl.out _).mono ?_); rintro e wz ⟨rfl, hzz⟩) | (go_simp; (with_reducible refine (kl.out _).mono ?_); rintro e wz ⟨rfl, hzz⟩) | (fail "arm")))
          all_goals
            go_wp2
            go_ret2
            refine ⟨?_, HB.out.trans (Below.mono (below_of_drew hzz) HB.out.size)⟩
            rw [← HS.out, ← HE.out, nextS_ok (by rw [HUN.out]; exact ht), nextE_ok (by rw [HUN.out]; exact ht), HTU.out]
            rfl
      | @one p' n' _ hW3 =>
        obtain ⟨rfl, rfl⟩ := hW3.same hWd.out
        have b9 : ((s[i].toNat : Int) == 49) = true := by rw [hc]; rfl
        have HDC := Lib.hid hdc
        have HL3 := Lib.hid hl3
        clear hW3 hM hdc hc hl3
        go_wp2
        go_roundg i
        case measure => rw [HGG.out]; omega
        case rel =>
          refine ⟨i, p' + 1, n' + 1, by omega, rfl, by go_num, by go_num, by go_num, by have := HL3.out; omega, by have := HL3.out; omega, Lib.hid (by rw [HDC.out]; exact .one hWd.out), Lib.hid ?_, rfl⟩
          rw [HDC.out, nxt, show (if (49 : UInt8) = 49 then n' + 1 + 1 else n' + 1 - 1) = n' + 2 by simp, hNx.out]
          simp
end Go.Proofs.Ytdjbcmfjlfkcjaa

namespace Go.Proofs.Ytdjbcmfjlfkcjaa
open Go.RowKit

theorem wsum_step (k : Nat) : wsum k < wsum (k + 1) := by
  have := trk_lt (.num k)
  rw [pairs_num] at this
  omega
theorem wsum_twelve {k : Nat} (h : k ≤ 12) : wsum k ≤ 16777216 := by
  have h1 := wsum_le k
  have h2 : 2 ^ (2 * k) ≤ 2 ^ 24 := Nat.pow_le_pow_right (by omega) (by omega)
  have h3 : (2 : Nat) ^ 24 = 16777216 := by decide
  omega
theorem programs_bad (n : Int) (hn : n < 0 ∨ 11 < n) (w : World) :
    Calls Try.prog 44 #[.int .i64 n] w fun e w' => e = .returned (.tuple #[.slice none 0 0, .int .i64 2]) ∧ Below w.heap.size w w' := by
  rcases hn with hn | hn
  · go_enter Try.func44, Try.ntmps44
    go_wp2
    go_ret2
    exact ⟨rfl, Below.refl _ _⟩
  · have h0 : ¬ n < 0 := by omega
    go_enter Try.func44, Try.ntmps44
    go_wp2
    go_ret2
    exact ⟨rfl, Below.refl _ _⟩
/-- The tree behind one of few pairs. -/
theorem next_seq (r m : Nat) (hm : m ≤ 1000) (hr : r < wsum (m + 1)) (w : World) :
    Calls Try.prog 41 #[.string (TS (seqT r))] w fun e w' => e = .returned (.tuple #[.string (TS (seqT (r + 1))), .int .i64 0]) ∧ Below w.heap.size w w' := by
  have h1 := seq_size (r := r) (m := m) hr
  have h2 : (seqT (r + 1)).size ≤ 2000000 := by
    have := seq_size (r := r + 1) (m := m + 1) (by have := wsum_step (m + 1); omega)
    omega
  have := next_any (seqT r) (seqT (r + 1)) (by omega) (nxT_spec _).1 w
  rwa [nextS_ok h2, nextE_ok h2] at this
set_option maxRecDepth 20000 in
set_option maxHeartbeats 4000000 in
theorem programs_ok (m : Nat) (hm : m ≤ 11) (w : World) :
    Calls Try.prog 44 #[.int .i64 m] w fun e w' => ∃ v, e = .returned (.tuple #[v, .int .i64 0]) ∧ ProgsRow w' w'.heap.size v (progsT (wsum (m + 1))) ∧ Below w.heap.size w w' := by
  have hmI : (0 : Int) ≤ m ∧ (m : Int) ≤ 11 := by omega
  obtain ⟨R, hR⟩ : ∃ R, wsum (m + 1) = R := ⟨_, rfl⟩
  have hR24 : R ≤ 16777216 := by rw [← hR]; exact wsum_twelve (by omega)
  have hPL := Lib.hid (fun r => progs_len r)
  have HSP := Lib.hid (fun r => seq_pairs (r := r) (m := m))
  have HNX := Lib.hid (fun r (hr : r < R) w => next_seq r m (by omega) (by rw [hR]; exact hr) w)
  have HP2 : Hid ((seqT R).pairs ≤ m + 1) := Lib.hid (seq_pairs.2 (by rw [← hR]; exact wsum_step (m + 1)))
  rw [hR] at HSP ⊢
  clear hR
  go_enter Try.func44, Try.ntmps44
  go_wp2
  go_loopg [4, 5] R (fun gg o s wr => ∃ r : Nat, r ≤ R ∧ gg = R - r ∧ s = .string (TS (seqT r)) ∧ Hid (OwnP wr w.heap.size o (progsT r)) ∧ Hid (Below w.heap.size w wr))
  case atStart => exact ⟨0, by omega, rfl, rfl, Lib.hid (OwnP.nil _ _), Lib.hid (Below.refl _ _)⟩
  case round =>
    obtain ⟨r, hr, hgg, rfl, hO, hB⟩ := hrel
    have HGG := Lib.hid hgg; clear hgg
    have hsz : (TS (seqT r)).size = 2 * (seqT r).pairs + 1 := by rw [TS_size, Tr.size_pairs]
    by_cases hlt : r < R
    · have hp := (HSP.out r).2 hlt
      have hdiv : ((TS (seqT r)).size : Int) / 2 = (seqT r).pairs := by omega
      have hdec := Lib.hid (fun w => decode_any (seqT r) (by rw [Tr.size_pairs]; omega) w)
      have hnx := Lib.hid (fun w => HNX.out r hlt w)
      have hPN := Lib.hid (progs_none (r := r))
      have hPS := Lib.hid (fun l => progs_some (r := r) (l := l))
      have hlen := Lib.hid (hPL.out r)
      have hts : (seqT r).size ≤ 2000000 := by rw [Tr.size_pairs]; omega
      have HTS := Lib.hid hts
      clear hts
      obtain ⟨t, ht⟩ : ∃ t, seqT r = t := ⟨_, rfl⟩
      rw [ht] at HTS hsz hp hdiv hdec hnx hPN hPS ⊢
      obtain ⟨P, hP⟩ : ∃ P, t.pairs = P := ⟨_, rfl⟩
      rw [hP] at hsz hp hdiv
      obtain ⟨s, hs⟩ : ∃ s, TS t = s := ⟨_, rfl⟩
      rw [hs] at hsz hdiv hdec hnx ⊢
      have hsI : (s.size : Int) ≤ 23 := by omega
      have hpI : (P : Int) ≤ m := by omega
      obtain ⟨oa, oc, rfl⟩ := hO.out.len
      obtain ⟨q, hq⟩ : ∃ q, (progsT r).length = q := ⟨_, rfl⟩
      have HQ := Lib.hid hq
      rw [hq] at hO hlen ⊢
      clear hq ht hP hs hsz hp
      go_wp2_with fail
      refine (hdec.out _).mono ?_
      rintro e w1 ⟨hb1, ⟨l, v, hl, rfl, hv⟩ | ⟨hl, rfl⟩⟩
      · have hO1 := hO.out.below hb1
        have HB1 := Lib.hid (hB.out.trans (hb1.mono hB.out.size))
        have hL := Lib.hid (hPS.out l hl)
        obtain ⟨a1, c1, rfl⟩ := hv.slice
        have hue : ∀ g, (Value.slice a1 l.length c1).ownBlock = some g → g < w1.heap.size ∧ (Value.slice oa q oc).ownBlock ≠ some g := fun g hg => ⟨(hv.block hg).2, fun e => by have h1 := (hO.out.lt e).2; have h2 := (hv.block hg).1; omega⟩
        have hrow := hv.row (by have := validB_len (decT_code HTS.out hl).2; omega)
        have hb2 := HB1.out
        clear hb1 hdec hl hv hPN hPS hB hO
        go_wp2_with (at_builtin; refine app_prog rfl _ _ rfl rfl hO1 rfl hrow rfl ?c1 ?c2 hb2 ?_)
        case c1 => exact hue
        case c2 => rw [HQ.out]; have := hlen.out; omega
        clear hO1 hb2 hrow hue
        intro a' k' c' w' hk' hown' hb'
        have hkk : Hid (k' = (progsT (r + 1)).length) := Lib.hid (by rw [hk'.out, hL.out, List.length_append]; rfl)
        have HO2 : Hid (OwnP w' w.heap.size (.slice a' k' c') (progsT (r + 1))) := Lib.hid (by rw [hL.out]; exact hown'.out)
        clear hown' hk' hL
        go_wp2_with fail
        refine (hnx.out _).mono ?_
        rintro e w3 ⟨rfl, hb3⟩
        have HB3 := Lib.hid (hb'.out.trans (hb3.mono hb'.out.size))
        have HO3 := Lib.hid (HO2.out.below hb3)
        clear hb3 hb' HO2 hnx
        go_wp2
        go_roundg (R - (r + 1))
        case measure => rw [HGG.out]; omega
        case rel => exact ⟨r + 1, by omega, rfl, rfl, HO3, HB3⟩
      · have HO1 := Lib.hid (hO.out.below hb1)
        have HB1 := Lib.hid (hB.out.trans (hb1.mono hB.out.size))
        have hL := Lib.hid (hPN.out hl)
        clear hb1 hdec hl hPN hPS hB hO
        go_wp2_with fail
        refine (hnx.out _).mono ?_
        rintro e w3 ⟨rfl, hb3⟩
        have HB3 := Lib.hid (HB1.out.trans (hb3.mono HB1.out.size))
        have HO3 := Lib.hid (HO1.out.below hb3)
        clear hb3 HO1 HB1 hnx
        go_wp2
        go_roundg (R - (r + 1))
        case measure => rw [HGG.out]; omega
        case rel => exact ⟨r + 1, by omega, rfl, rfl, Lib.hid (by rw [hL.out]; exact HO3.out), HB3⟩
    · obtain rfl : r = R := by omega
      have hp : ¬ (seqT r).pairs ≤ m := fun h => hlt ((HSP.out r).1 h)
      have hp2 := HP2.out
      have hdiv : ((TS (seqT r)).size : Int) / 2 = (seqT r).pairs := by omega
      have hpI : ¬ ((seqT r).pairs : Int) ≤ m := by omega
      have hsI : ((TS (seqT r)).size : Int) ≤ 100 := by omega
      have hlen := Lib.hid (hPL.out r)
      have HR := Lib.hid (hO.out.row (by have := hlen.out; omega))
      obtain ⟨oa, oc, rfl⟩ := hO.out.len
      clear hO hsz hp hp2
      generalize TS (seqT r) = s at *
      generalize (seqT r).pairs = P at *
      go_wp2
      go_ret2
      exact ⟨_, rfl, HR.out, hB.out⟩
end Go.Proofs.Ytdjbcmfjlfkcjaa

namespace Go.Proofs.Ytdjbcmfjlfkcjaa
open Go.RowKit

/-- Whether a string is before another one. -/
def befB (a b : ByteArray) : Bool := decide (a.size < b.size) || (decide (a.size = b.size) && Op.bytesLess a.toList b.toList)
theorem before10_any (a b : ByteArray) (_ha : a.size ≤ 4611686018427387904) (_hb : b.size ≤ 4611686018427387904) (w : World) :
    Calls Try.prog 48 #[.string a, .string b] w fun e w' => e = .returned (.bool (befB a b)) ∧ w = w' := by
  obtain ⟨r, hr⟩ : ∃ r, Op.bytesLess a.toList b.toList = r := ⟨_, rfl⟩
  have kL : ∀ w, (Op.stringOp .lss a b).run Try.prog w = .ok (.bool r) w := fun w => by simp [Op.stringOp, hr, go_sem]
  by_cases h1 : a.size < b.size
  · have hR : befB a b = true := by simp [befB, h1]
    rw [hR]
    have h1I : (a.size : Int) < b.size := by omega
    clear hR hr
    go_enter Try.func48, Try.ntmps48
    go_wp2
    go_ret
    exact ⟨rfl, rfl⟩
  · by_cases h2 : a.size = b.size
    · have hR : befB a b = r := by simp [befB, h2, hr]
      rw [hR]
      have HR := Lib.hid hr
      have h2I : (a.size : Int) = b.size := by omega
      clear hR hr
      go_enter Try.func48, Try.ntmps48
      go_wp2
      go_ret
      exact ⟨by simp [HR.out], rfl⟩
    · have hR : befB a b = false := by simp [befB, h1, h2]
      rw [hR]
      have h1I : ¬ (a.size : Int) < b.size := by omega
      have h2I : ¬ (a.size : Int) = b.size := by omega
      clear hR hr
      go_enter Try.func48, Try.ntmps48
      go_wp2
      go_ret
      exact ⟨rfl, rfl⟩
theorem wsum_ge31 : 16 ≤ wsum 31 := by
  have h1 : wsum 4 ≤ wsum 31 := wsum_mono (by omega)
  have h2 := wsum_four
  have h3 := wsum_step 4
  have h4 := wsum_mono (show 5 ≤ 31 by omega)
  have h5 : wsum 5 = 23 := by simp [wsum, wy_step, wy_zero, wy_none]
  omega
def aw4 : Tr := .pair .nil (.pair .nil (.pair .nil .nil))
def aw3 : Tr := .pair (.pair .nil .nil) .nil
theorem aw_rank (w : World) : Calls Try.prog 40 #[.string ⟨#[49, 48, 49, 48, 49, 48, 48]⟩] w fun e w' => e = .returned (.tuple #[.int .i64 4, .int .i64 0]) ∧ Below w.heap.size w w' := by
  have h := rank_ok aw4 (by decide) w
  have h1 : trk aw4 = 4 := trk_seq 4
  rw [h1] at h
  exact h
theorem aw_unrank (w : World) : Calls Try.prog 43 #[.int .i64 3] w fun e w' => e = .returned (.tuple #[.string ⟨#[49, 49, 48, 48, 48]⟩, .int .i64 0]) ∧ Below w.heap.size w w' :=
  unrank_ok 3 (by have := wsum_ge31; omega) w
theorem aw_next (w : World) : Calls Try.prog 41 #[.string ⟨#[49, 49, 48, 48, 48]⟩] w fun e w' => e = .returned (.tuple #[.string ⟨#[49, 48, 49, 48, 49, 48, 48]⟩, .int .i64 0]) ∧ Below w.heap.size w w' :=
  next_seq 3 3 (by omega) (by rw [wsum_four]; omega) w
theorem aw_progs (w : World) : Calls Try.prog 44 #[.int .i64 3] w fun e w' => ∃ v, e = .returned (.tuple #[v, .int .i64 0]) ∧ ProgsRow w' w'.heap.size v [[], [⟨0, 0, 0, 0, ⟨#[48]⟩⟩]] ∧ Below w.heap.size w w' := by
  have h := programs_ok 3 (by omega) w
  rw [show (3 : Nat) + 1 = 4 from rfl, progs_three] at h
  exact h
set_option maxRecDepth 20000 in
set_option maxHeartbeats 4000000 in
theorem awake10_any (w : World) : Calls Try.prog 35 #[] w fun e w' => e = .returned (.bool true) ∧ Below w.heap.size w w' := by
  go_enter Try.func35, Try.ntmps35
  go_wp2_with fail
  refine (aw_rank _).mono ?_
  rintro e w1 ⟨rfl, hb1⟩
  have HB1 := Lib.hid hb1
  clear hb1
  go_wp2_with fail
  refine (aw_unrank _).mono ?_
  rintro e w2 ⟨rfl, hb2⟩
  have HB2 := Lib.hid (HB1.out.trans (hb2.mono HB1.out.size))
  clear hb2 HB1
  go_wp2_with fail
  refine (aw_next _).mono ?_
  rintro e w3 ⟨rfl, hb3⟩
  have HB3 := Lib.hid (HB2.out.trans (hb3.mono HB2.out.size))
  clear hb3 HB2
  go_wp2_with fail
  refine (aw_progs _).mono ?_
  rintro e w4 ⟨v, rfl, hp, hb4⟩
  have HB4 := Lib.hid (HB3.out.trans (hb4.mono HB3.out.size))
  clear hb4 HB3
  obtain ⟨ao, cap, rfl⟩ := hp.len
  obtain ⟨g, off, u0, rfl, hg, c0, hu0⟩ := hp.get (k := 0) rfl
  obtain ⟨g', off', u1, he, hg', c1, hu1⟩ := hp.get (k := 1) rfl
  injection he with he
  injection he with he1 he2 he3
  subst he1 he2
  obtain ⟨a0, cp0, rfl⟩ := hu0.len
  obtain ⟨a1, cp1, rfl⟩ := hu1.len
  have HU1 := Lib.hid hu1
  simp only [List.length_nil, List.length_cons, Nat.add_zero, Nat.zero_add] at c0 c1 HU1
  have hwf : (⟨0, 0, 0, 0, ⟨#[48]⟩⟩ : Ins).wf := wf_lit _ _ _ _ _ (by unfold i64; decide) (by unfold i64; decide) (by unfold i64; decide) (by unfold i64; decide) (by decide)
  have hlit := Lib.hid (OwnI.lit w4 [⟨0, 0, 0, 0, ⟨#[48]⟩⟩] (by simpa using hwf) (by decide))
  clear hp hu0 hu1 hwf
  have hbA : Below w4.heap.size w4 (w4.alloc (.cells (inscells [⟨0, 0, 0, 0, ⟨#[48]⟩⟩]).toArray 75)) := (Below.refl _ _).alloc (Nat.le_refl _) _
  have hs := Lib.hid (same_self ((HU1.out.below hbA).mono hbA.size) (hlit.out.row (by decide)))
  have HBA := Lib.hid (HB4.out.trans (hbA.mono HB4.out.size))
  clear hbA
  go_wp2_with fail
  refine hs.out.mono ?_
  rintro e w5 ⟨rfl, hb5⟩
  go_wp2
  go_ret
  exact ⟨rfl, HBA.out.trans (hb5.mono HBA.out.size)⟩
end Go.Proofs.Ytdjbcmfjlfkcjaa


/- ref02.Code. -/
import Derived.Test.YtdjbcmfjlfkcjaaRCode
import Derived.Test.YtdjbcmfjlfkcjaaMB0
namespace Go.Proofs.Ytdjbcmfjlfkcjaa
open Go.RowKit

theorem cof_any {x : Ins} {i n : Int} (hr : rightB x i n = true) (hi : 0 ≤ i ∧ i ≤ 4000 ∧ n ≤ 4000) (w : World) :
    Calls Try.prog 124 #[.agg #[.int .i64 x.op, .int .i64 x.a, .int .i64 x.b, .int .i64 x.c, .string x.tree]] w fun e w' => e = .returned (.string (TS (insT x))) ∧ Below w.heap.size w w' := by
  obtain ⟨a, ha, ha2, hbc⟩ := right_nats hr
  have hop := right_op hr
  have htr := hr
  obtain ⟨op, xa, b, c, t⟩ := x
  simp only at ha hop hbc
  subst ha
  rcases hop with rfl | rfl | rfl | rfl | rfl | rfl
  · have ht : isTree t = true := by
      unfold rightB at htr
      simp only [Bool.and_eq_true] at htr
      have h3 := htr.2
      simp at h3
      exact h3.2
    have := cof_set b c t a (by omega) (toTr t) (TS_toTr ht) (toTr_size t) w
    simpa [insT, bodyT] using this
  · obtain ⟨b', c', rfl, rfl, h1, h2⟩ := hbc (by decide)
    have := cof_r1 c' t a (by omega) b' (by omega) w
    simpa [insT, bodyT] using this
  · obtain ⟨b', c', rfl, rfl, h1, h2⟩ := hbc (by decide)
    have := cof_cons t a (by omega) b' (by omega) c' (by omega) w
    simpa [insT, bodyT] using this
  · obtain ⟨b', c', rfl, rfl, h1, h2⟩ := hbc (by decide)
    have := cof_r3 c' t a (by omega) b' (by omega) w
    simpa [insT, bodyT] using this
  · obtain ⟨b', c', rfl, rfl, h1, h2⟩ := hbc (by decide)
    have := cof_r4 c' t a (by omega) b' (by omega) w
    simpa [insT, bodyT] using this
  · have hj := right_jump hr rfl
    simp only at hj
    by_cases hneg : b < 0
    · obtain ⟨j, rfl⟩ : ∃ j : Nat, b = -(j : Int) := ⟨(-b).toNat, by omega⟩
      have := cof_back c t a (by omega) j (by omega) (by omega) w
      have h0 : 0 < j := by omega
      simpa [insT, bodyT, h0] using this
    · obtain ⟨j, rfl⟩ : ∃ j : Nat, b = (j : Int) := ⟨b.toNat, by omega⟩
      have := cof_on c t a (by omega) j (by omega) w
      have hn : ¬ ((j : Nat) : Int) < 0 := by omega
      simpa [insT, bodyT, hn] using this
theorem insT_size {x : Ins} {i n : Int} (hr : rightB x i n = true) (hi : 0 ≤ i ∧ i ≤ 4000 ∧ n ≤ 4000) : (TS (insT x)).size ≤ 4000020 := by
  obtain ⟨PF, _, _, _, h3, m, h4, h5⟩ := fields_put hr hi
  have h := ciL_size m h4 h5 h3
  have h1 : ciL x = 49 :: (insT x).enc := by
    unfold ciL insT
    show _ = 49 :: (49 :: ((Tr.num x.op.toNat).enc ++ (bodyT x).enc))
    rw [bodyT_enc hr, show (Tr.num x.op.toNat).enc = (TS (.num x.op.toNat)).data.toList from (TS_list _).symm]
    simp
  have h2 : (TS (insT x)).size = (insT x).enc.length := by rw [TS_size, Tr.enc_length]
  rw [h1, List.length_cons] at h
  omega
def codesL (l : List Ins) : List ByteArray := l.map fun x => TS (insT x)
theorem lwr_codes {l : List Ins} (h : ∀ x ∈ l, ∃ i n, rightB x i n = true) : lwr (codesL l) = codeLs l := by
  unfold lwr codesL codeLs
  rw [List.map_map]
  congr 1
  refine List.map_congr_left fun x hx => ?_
  obtain ⟨i, n, hr⟩ := h x hx
  show 49 :: (TS (insT x)).data.toList = ciL x
  unfold ciL insT
  rw [TS_list]
  show 49 :: (49 :: ((Tr.num x.op.toNat).enc ++ (bodyT x).enc)) = _
  rw [bodyT_enc hr, show (Tr.num x.op.toNat).enc = (TS (.num x.op.toNat)).data.toList from (TS_list _).symm]
  simp

theorem bodyB_size {x : Ins} {i n : Int} (hr : rightB x i n = true) (hi : 0 ≤ i ∧ i ≤ 4000 ∧ n ≤ 4000) : (bodyB x).size ≤ 8500 + x.tree.size := by
  obtain ⟨a, ha, ha2, hbc⟩ := right_nats hr
  have hs : ∀ a b : ByteArray, (a ++ b).size = a.size + b.size := fun a b => ByteArray.size_append
  have h1 : (⟨#[49]⟩ : ByteArray).size = 1 := rfl
  have h2 : (⟨#[49, 48]⟩ : ByteArray).size = 2 := rfl
  have h4 : (⟨#[49, 49, 48, 48]⟩ : ByteArray).size = 4 := rfl
  have hop := right_op hr
  unfold bodyB
  by_cases h0 : x.op = 0
  · rw [if_pos h0, hs, hs, num_size, h1]; omega
  · rw [if_neg h0]
    by_cases hc : x.op = 2
    · obtain ⟨b', c', hb', hc', _, _⟩ := hbc (by omega)
      rw [if_pos hc, hs, hs, hs, hs, num_size, num_size, num_size, h1]; omega
    · rw [if_neg hc]
      by_cases h5 : x.op = 5
      · have hj := right_jump hr h5
        rw [if_pos h5]
        split
        · rw [hs, hs, hs, num_size, num_size, h1, h4]; omega
        · rw [hs, hs, hs, num_size, num_size, h1, h2]; omega
      · obtain ⟨b', c', hb', hc', _, _⟩ := hbc h5
        rw [if_neg h5, hs, hs, num_size, num_size, h1]; omega
theorem codeLs_small (l : List Ins) (hv : validB l = true) : (codeLs l).length ≤ 40000000 := by
  have hl := validB_len hv
  have hx : ∀ x ∈ l, (ciL x).length ≤ 8600 + x.tree.size := by
    intro x hx
    obtain ⟨k, hk, rfl⟩ := List.getElem_of_mem hx
    have hr := rightAll_get (validB_all hv) (List.getElem?_eq_getElem hk)
    have h1 := bodyB_size hr ⟨Int.natCast_nonneg _, by omega, by omega⟩
    have hop := right_op hr
    unfold ciL
    have h2 : (⟨#[49, 49]⟩ ++ TS (.num l[k].op.toNat) : ByteArray).size = 2 + (2 * l[k].op.toNat + 1) := by rw [ByteArray.size_append, num_size]; rfl
    have h3 : ∀ s : ByteArray, s.data.toList.length = s.size := fun s => by simp
    rw [List.length_append, h3, h3, h2]; omega
  have : ∀ k : List Ins, (∀ x ∈ k, (ciL x).length ≤ 8600 + x.tree.size) → (codeLs k).length ≤ 8600 * k.length + trees k := by
    intro k
    induction k with
    | nil => intro _; simp [codeLs]
    | cons x k ih =>
      intro h
      have h1 := ih fun y hy => h y (List.mem_cons_of_mem _ hy)
      have h2 := h x (List.mem_cons_self)
      have h3 : codeLs (x :: k) = ciL x ++ codeLs k := by simp [codeLs]
      have h4 : trees (x :: k) = x.tree.size + trees k := by simp [trees]
      rw [h3, List.length_append, List.length_cons, h4]; omega
  have h5 := this l hx
  have h6 : trees l ≤ 2000000 := by
    unfold validB at hv
    simp only [Bool.and_eq_true, decide_eq_true_eq] at hv
    exact hv.1.2
  omega

set_option maxHeartbeats 4000000 in
theorem rcode_any (v : Value) (l : List Ins) (w : World) (hl : InsRow w w.heap.size v l) (hv : validB l = true) :
    Calls Try.prog 93 #[v] w fun e w' => e = .returned (.string (codeOf l)) ∧ Below w.heap.size w w' := by
  have hl4 := validB_len hv
  have hbd := codeLs_bound l hv
  obtain ⟨R, hR⟩ : ∃ R, codeOf l = R := ⟨_, rfl⟩
  rw [hR]
  have HR := Lib.hid hR
  obtain ⟨ao, cap, rfl⟩ := hl.len
  have hn5 := hl.2.1
  obtain ⟨n, hn'⟩ : ∃ n, l.length = n := ⟨_, rfl⟩
  rw [hn'] at hl hn5 hl4 ⊢
  have HN := Lib.hid hn'
  have HL := Lib.hid hl
  have HV := Lib.hid hv
  have HBD := Lib.hid hbd
  clear hn' hl hv hR hbd
  go_enter Try.func93, Try.ntmps93
  go_wp2
  go_loopg [3, 4] n (fun gg o i wr => ∃ k : Nat, k ≤ n ∧ gg = n - k ∧ i = .int .i64 k ∧ Hid (wr.ownsRow w.heap.size 9 1 o k ((codesL (l.take k)).map Value.string)) ∧ Hid (Below w.heap.size w wr))
  case atStart => exact ⟨0, Nat.zero_le _, rfl, rfl, World.ownsRow_nil _ _ _ _, Below.refl _ _⟩
  case round =>
    obtain ⟨k, hk, hg, rfl, hP, hb⟩ := hrel
    have HG := Lib.hid hg; clear hg
    by_cases hlt : k < n
    · obtain ⟨x, hx⟩ : ∃ s, l[k]? = some s := ⟨_, List.getElem?_eq_getElem (by rw [HN.out]; exact hlt)⟩
      have hr := rightAll_get (validB_all HV.out) hx
      obtain ⟨g, off, rfl, hg, c0, c1, c2, c3, c4⟩ := (HL.out.below hb.out).get hx
      have kc := fun w => cof_any hr ⟨Int.natCast_nonneg _, by omega, by rw [HN.out]; omega⟩ w
      have hstep := Lib.hid (show codesL (l.take (k + 1)) = codesL (l.take k) ++ [TS (insT x)] by rw [take_snoc' _ _ _ hx]; unfold codesL; simp)
      obtain ⟨S, hS⟩ : ∃ S, TS (insT x) = S := ⟨_, rfl⟩
      rw [hS] at kc hstep
      have hi0 : (0 : Int) ≤ (k : Int) := Int.natCast_nonneg _
      have hi1 : (k : Int) < (n : Int) := by omega
      clear hx hr hS
      go_wp2_with fail
      refine (kc _).mono ?_
      rintro e w1 ⟨rfl, hq⟩
      have hown := own_below hP.out hq
      have hb2 := hb.out.trans (hq.mono hb.out.size)
      have hsz := hb2.size
      clear kc hq c0 c1 c2 c3 c4 hP hb
      go_wp2_with (at_builtin; refine app_new el_str rfl _ _ rfl rfl hown [.string S] 1 rfl rfl ?c1 ?c2 ?c3 hsz hb2 (Nat.le_refl _) ?_)
      case c1 => intro u hu; simp at hu; subst hu; rfl
      case c2 => omega
      case c3 => unfold maxLen; omega
      intro v' w' hown' hb' _
      have hnew : Hid (w'.ownsRow w.heap.size 9 1 v' (k + 1) ((codesL (l.take (k + 1))).map Value.string)) := Lib.hid (by rw [hstep.out, List.map_append]; exact hown')
      have hb' := Lib.hid hb'
      clear hown hown' hb2 hsz
      go_wp2
      go_roundg (n - (k + 1))
      case measure => rw [HG.out]; omega
      case rel => exact ⟨k + 1, by omega, rfl, by go_num, hnew, hb'⟩
    · have hkn : k = n := by omega
      subst hkn
      rw [List.take_of_length_le (by rw [HN.out]; omega)] at hP
      obtain ⟨a2, c2, rfl⟩ := own_len hP.out
      have hall : ∀ y ∈ codesL l, y.size ≤ 4000020 := by
        intro y hy
        obtain ⟨x, hx, rfl⟩ := List.mem_map.1 hy
        obtain ⟨j, hj, rfl⟩ := List.getElem_of_mem hx
        exact insT_size (rightAll_get (validB_all HV.out) (List.getElem?_eq_getElem hj)) ⟨Int.natCast_nonneg _, by rw [HN.out] at hj; omega, by rw [HN.out]; omega⟩
      have hlen : (codesL l).length = k := by unfold codesL; rw [List.length_map, HN.out]
      have hrow : StrRow wr wr.heap.size (.slice a2 k c2) (codesL l) := StrRow.of_own (n := k) (e := 9) (base := w.heap.size) hP.out (fun y hy => by have := hall y hy; omega) (by rw [hlen]; omega)
      have kl := refList_any _ (codesL l) _ hrow (by rw [hlen]; omega) (by rw [lwr_codes (valid_rights (validB_all HV.out))]; have := codeLs_small l HV.out; omega)
      rw [lwr_codes (valid_rights (validB_all HV.out))] at kl
      have kl := Lib.hid kl
      clear hall hlen hrow hP
      go_wp2_with fail
      refine kl.out.mono ?_
      rintro e w1 ⟨rfl, hq⟩
      go_wp2
      go_ret
      exact ⟨by rw [← HR.out]; rfl, hb.out.trans (hq.mono hb.out.size)⟩

end Go.Proofs.Ytdjbcmfjlfkcjaa


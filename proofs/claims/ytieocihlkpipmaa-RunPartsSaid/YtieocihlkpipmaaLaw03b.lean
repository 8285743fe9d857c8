/- The walks of the laws of narcissuslaw03: RunRuns. -/
import Derived.Test.YtieocihlkpipmaaLaw03
namespace Go.Proofs.Ytieocihlkpipmaa
open Go.RowKit

theorem RMachP.mono {w : World} {T T' g : Nat} {l : List Ins} {pv tv : Value} (h : RMachP w T g l pv tv) (hT : T ≤ T') : RMachP w T' g l pv tv := by
  obtain ⟨xs, base, h1, h2, h3⟩ := h.sets
  exact ⟨h.blk, by have := h.lt; omega, h.prog.mono hT, xs, base, h1, h2, fun k hk => by have := h3 k hk; omega⟩
theorem RMachP.below {w w' : World} {g : Nat} {l : List Ins} {pv tv : Value} (h : RMachP w w.heap.size g l pv tv) (hb : Below w.heap.size w w') : RMachP w' w'.heap.size g l pv tv := (h.kept hb (Kept.below hb)).mono hb.size
theorem run_form_ct {w : World} {v : Value} {l : List Ins} (hl : InsRow w w.heap.size v l) (s : ByteArray) (hs : s.size ≤ 140737488355328) (fuel : Int) (h : validB l = false ∨ isTree s = false) :
    Ct w 21 #[v, .string s, .int .i64 fuel] (.tuple #[.string ⟨#[]⟩, .int .i64 0, .int .i64 1]) :=
  Ct.of fun w' hb => run_bad v l s fuel w' 1 ((hl.below hb).mono hb.size) (.inl rfl) (fun w2 h2 => begin_form v l s fuel w2 h2 hs h)
theorem run_arg_ct {w : World} {v : Value} {l : List Ins} (hl : InsRow w w.heap.size v l) (s : ByteArray) (hs : s.size ≤ 140737488355328) (fuel : Int) (hv : validB l = true) (ht : isTree s = true) (hk : fuel < 0 ∨ 10000000 < fuel) :
    Ct w 21 #[v, .string s, .int .i64 fuel] (.tuple #[.string ⟨#[]⟩, .int .i64 0, .int .i64 2]) :=
  Ct.of fun w' hb => run_bad v l s fuel w' 2 ((hl.below hb).mono hb.size) (.inr rfl) (fun w2 h2 => begin_arg v l s fuel w2 h2 hs hv ht hk)
theorem sameP_self (l : List Ins) : sameP l l = true := by unfold sameP; exact decide_eq_true rfl
theorem same_ct {w : World} {v v' : Value} {l l' : List Ins} (h1 : InsRow w w.heap.size v l) (h2 : InsRow w w.heap.size v' l') (b : Bool) (hb : sameP l l' = b) : Ct w 22 #[v, v'] (.bool b) := fun w' hb' =>
  (sameP_any v v' l l' w' w.heap.size (h1.below hb') (h2.below hb')).mono fun e w'' h => ⟨by rw [← hb]; exact h.1, by obtain ⟨nq, rfl⟩ := h.2; exact below_drewN hb' nq⟩
theorem cvalid_ct {w : World} {v : Value} {l : List Ins} (h1 : InsRow w w.heap.size v l) (b : Bool) (hb : validB l = b) : Ct w 23 #[v] (.bool b) := Ct.of fun w' hb' => by
  rw [← hb]; exact refValidP_any v l w' ((h1.below hb').mono hb'.size)
theorem tvalid_ct {w : World} (s : ByteArray) (hs : s.size ≤ 140737488355328) (b : Bool) (hb : isTree s = b) : Ct w 24 #[.string s] (.bool b) := Ct.of_same fun w' => by
  rw [← hb]; exact refValid_any s (by omega) w'
theorem awake03_ct (w : World) : Ct w 25 #[] (.bool true) := Ct.of_any awake03
/-- The reference's machine, loaded; a tree, read; what it returns. -/
theorem load_ct {w : World} {v : Value} {l : List Ins} (hl : InsRow w w.heap.size v l) (hv : validB l = true) : ∀ w', Below w.heap.size w w' → Calls Try.prog 26 #[v] w' fun e w'' => ∃ gm tv, e = .returned (.pointer (some ⟨gm, 0, none⟩)) ∧ Hid (RMachP w'' w''.heap.size gm l v tv) ∧ Below w.heap.size w w'' := fun w' hb =>
  (load_any v l w' ((hl.below hb).mono hb.size) hv).mono fun e w'' ⟨gm, tv, h1, h2, h3⟩ => ⟨gm, tv, h1, h2, hb.trans (h3.mono hb.size)⟩
theorem read_ct {w : World} (t : Tr) (ht : t.size ≤ 2000000) : ∀ w', Below w.heap.size w w' → Calls Try.prog 28 #[.string (TS t)] w' fun e w'' => ∃ q, e = .returned (.pointer q) ∧ Hid (NodeP 114 w'' t (.pointer q) ∧ Below w'.heap.size w' w'') ∧ Below w.heap.size w w'' := fun w' hb =>
  (read_ok t ht w').mono fun e w'' ⟨q, h1, h2, h3⟩ => ⟨q, h1, ⟨h2, h3⟩, hb.trans (h3.mono hb.size)⟩
theorem rrun_ct {w w' : World} {gm : Nat} {l : List Ins} {pv tv : Value} {t : Tr} {q : Option Addr} {K : Nat} (hK : K ≤ 100000000) (hm : RMachP w' w'.heap.size gm l pv tv) (hx : NodeP 114 w' t (.pointer q)) (ht : t.size ≤ 2000000) (hv : validB l = true) (y : Tr) (n : Nat) (er : Int) (hr : (goF l K 0 (startS t)).rrun = (y, n, er)) (hb : Below w.heap.size w w') :
    Calls Try.prog 27 #[.pointer (some ⟨gm, 0, none⟩), .pointer q, .int .i64 K] w' fun e w'' => ∃ q', e = .returned (.tuple #[.pointer q', .int .i64 n, .int .i64 er]) ∧ Hid (NodeP 114 w'' y (.pointer q')) ∧ Below w.heap.size w w'' := by
  have := rrun_any w' gm l pv tv t _ K hK hm hx ht (validB_all hv) (validB_len hv)
  rw [hr] at this
  exact this.mono fun e w'' ⟨q', h1, h2, h3⟩ => ⟨q', h1, h2, hb.trans (h3.mono hb.size)⟩
theorem text_ct {w w' : World} {t : Tr} {q : Option Addr} (hx : NodeP 114 w' t (.pointer q)) (ht : t.size ≤ 2000000) (hb : Below w.heap.size w w') :
    Calls Try.prog 29 #[.pointer q] w' fun e w'' => e = .returned (.string (TS t)) ∧ Below w.heap.size w w'' :=
  (rnodeText_any t _ w' hx (by omega)).mono fun e w'' h => ⟨h.1, hb.trans (h.2.mono hb.size)⟩

set_option maxRecDepth 100000 in
set_option maxHeartbeats 4000000 in
theorem law_RunRuns {w : World} (v : Value) (l : List Ins) (hl : InsRow w w.heap.size v l) (s : ByteArray) (hs : s.size ≤ 140737488355328) (fuel : Int) (hf : -9223372036854775808 ≤ fuel ∧ fuel ≤ 9223372036854775807) :
    Calls Try.prog 3 #[v, .string s, .int .i64 fuel] w fun e w' => e = .returned (.bool true) ∧ Below w.heap.size w w' := by
  have kt := twin_any v l w hl
  go_enter Try.func3, Try.ntmps3
  go_wp2_with fail
  refine kt.mono ?_
  rintro e wB ⟨v', rfl, hv', hb1⟩
  have HQ := Lib.hid hb1
  have hl1 := (hl.below hb1).mono hb1.size
  have cSame := same_ct hl1 hv' true (sameP_self l)
  have cAw := awake03_ct wB
  clear kt hv' hl hb1
  by_cases hgood : validB l = true ∧ isTree s = true
  · obtain ⟨hv, htr⟩ := hgood
    have cV := cvalid_ct hl1 _ hv
    have cT := tvalid_ct (w := wB) s hs _ htr
    by_cases hf1 : fuel < 0 ∨ 10000000 < fuel
    · have cR := run_arg_ct hl1 s hs fuel hv htr hf1
      clear hv htr hl1
      rcases hf1 with hf1 | hf1
      all_goals
        go_wp2_with fail
        refine (cR _ (Below.refl _ _)).mono ?_
        rintro e w1 ⟨rfl, hb1⟩
        go_wp2_with fail
        refine (cSame _ hb1).mono ?_
        rintro e w2 ⟨rfl, hb2⟩
        clear hb1
        go_wp2_with fail
        refine (cV _ hb2).mono ?_
        rintro e w3 ⟨rfl, hb3⟩
        clear hb2
        go_wp2_with fail
        refine (cT _ hb3).mono ?_
        rintro e w4 ⟨rfl, hb4⟩
        clear hb3
        go_wp2_with fail
        refine (cAw _ hb4).mono ?_
        rintro e w5 ⟨rfl, hb5⟩
        clear hb4
        go_wp2
        go_ret
        exact ⟨rfl, HQ.out.trans (hb5.mono HQ.out.size)⟩
    · obtain ⟨t, rfl, ht⟩ := isTree_get htr
      obtain ⟨K, rfl⟩ := Int.eq_ofNat_of_zero_le (by omega : 0 ≤ fuel)
      have hK : K ≤ 10000000 := by omega
      have hKI : (K : Int) ≤ 10000000 := by omega
      have cLoad := load_ct hl1 hv
      have cRead := read_ct (w := wB) t ht
      have hgd := (goF_good (validB_all hv) (f := K) (n := 0) (Good.start l.length t ht)).1
      cases hR : goF l K 0 (startS t) with
      | big =>
        have cR := run_ct hl1 hv t ht K hK ⟨#[]⟩ 0 3 (by rw [hR]; rfl)
        have hrr : (goF l K 0 (startS t)).rrun = (.nil, 0, 3) := by rw [hR]; rfl
        clear htr hl1 hR hf1 hgd
        generalize TS t = S at *
        go_wp2_with fail
        refine (cR _ (Below.refl _ _)).mono ?_
        rintro e w1 ⟨rfl, hb1⟩
        go_wp2_with fail
        refine (cSame _ hb1).mono ?_
        rintro e w2 ⟨rfl, hb2⟩
        clear hb1
        go_wp2_with fail
        refine (cV _ hb2).mono ?_
        rintro e w3 ⟨rfl, hb3⟩
        clear hb2
        go_wp2_with fail
        refine (cT _ hb3).mono ?_
        rintro e w4 ⟨rfl, hb4⟩
        clear hb3
        go_wp2_with fail
        refine (cLoad _ hb4).mono ?_
        rintro e w5 ⟨gm, tv, rfl, hm, hb5⟩
        clear hb4
        go_wp2_with fail
        refine (cRead _ hb5).mono ?_
        rintro e w6 ⟨q, rfl, hq, hb6⟩
        clear hb5
        have hm2 := hm.out.below hq.out.2
        have kr := fun hb => rrun_ct (w := wB) (by omega) hm2 hq.out.1 ht hv _ _ _ hrr hb
        clear hm2
        go_wp2_with fail
        refine (kr hb6).mono ?_
        rintro e w7 ⟨q2, rfl, hn, hb7⟩
        clear hb6
        go_wp2_with fail
        refine (cAw _ hb7).mono ?_
        rintro e w8 ⟨rfl, hb8⟩
        clear hb7
        go_wp2
        go_ret
        exact ⟨rfl, HQ.out.trans (hb8.mono HQ.out.size)⟩
      | fuel s' n =>
        have cR := run_ct hl1 hv t ht K hK ⟨#[]⟩ 0 7 (by rw [hR]; rfl)
        have hrr : (goF l K 0 (startS t)).rrun = (.nil, 0, 7) := by rw [hR]; rfl
        clear htr hl1 hR hf1 hgd
        generalize TS t = S at *
        go_wp2_with fail
        refine (cR _ (Below.refl _ _)).mono ?_
        rintro e w1 ⟨rfl, hb1⟩
        go_wp2_with fail
        refine (cSame _ hb1).mono ?_
        rintro e w2 ⟨rfl, hb2⟩
        clear hb1
        go_wp2_with fail
        refine (cV _ hb2).mono ?_
        rintro e w3 ⟨rfl, hb3⟩
        clear hb2
        go_wp2_with fail
        refine (cT _ hb3).mono ?_
        rintro e w4 ⟨rfl, hb4⟩
        clear hb3
        go_wp2_with fail
        refine (cLoad _ hb4).mono ?_
        rintro e w5 ⟨gm, tv, rfl, hm, hb5⟩
        clear hb4
        go_wp2_with fail
        refine (cRead _ hb5).mono ?_
        rintro e w6 ⟨q, rfl, hq, hb6⟩
        clear hb5
        have hm2 := hm.out.below hq.out.2
        have kr := fun hb => rrun_ct (w := wB) (by omega) hm2 hq.out.1 ht hv _ _ _ hrr hb
        clear hm2
        go_wp2_with fail
        refine (kr hb6).mono ?_
        rintro e w7 ⟨q2, rfl, hn, hb7⟩
        clear hb6
        go_wp2_with fail
        refine (cAw _ hb7).mono ?_
        rintro e w8 ⟨rfl, hb8⟩
        clear hb7
        go_wp2
        go_ret
        exact ⟨rfl, HQ.out.trans (hb8.mono HQ.out.size)⟩
      | done s' n =>
        have cR := run_ct hl1 hv t ht K hK (TS (getR s'.regs 0)) n 0 (by rw [hR]; rfl)
        have hrr : (goF l K 0 (startS t)).rrun = (getR s'.regs 0, n, 0) := by rw [hR]; rfl
        have hys := getR_size (hgd s' n hR).2.2 0
        have hyy : ((TS (getR s'.regs 0)).toList == (TS (getR s'.regs 0)).toList) = true := by simp
        clear htr hl1 hR hf1 hgd
        generalize getR s'.regs 0 = y at *
        generalize TS t = S at *
        have ky : ∀ w' (q : Option Addr), NodeP 114 w' y (.pointer q) → Below wB.heap.size wB w' → Calls Try.prog 29 #[.pointer q] w' fun e w'' => e = .returned (.string (TS y)) ∧ Below wB.heap.size wB w'' := fun w' q h hb => text_ct h hys hb
        generalize TS y = Y at *
        go_wp2_with fail
        refine (cR _ (Below.refl _ _)).mono ?_
        rintro e w1 ⟨rfl, hb1⟩
        go_wp2_with fail
        refine (cSame _ hb1).mono ?_
        rintro e w2 ⟨rfl, hb2⟩
        clear hb1
        go_wp2_with fail
        refine (cV _ hb2).mono ?_
        rintro e w3 ⟨rfl, hb3⟩
        clear hb2
        go_wp2_with fail
        refine (cT _ hb3).mono ?_
        rintro e w4 ⟨rfl, hb4⟩
        clear hb3
        go_wp2_with fail
        refine (cLoad _ hb4).mono ?_
        rintro e w5 ⟨gm, tv, rfl, hm, hb5⟩
        clear hb4
        go_wp2_with fail
        refine (cRead _ hb5).mono ?_
        rintro e w6 ⟨q, rfl, hq, hb6⟩
        clear hb5
        have hm2 := hm.out.below hq.out.2
        have kr := fun hb => rrun_ct (w := wB) (by omega) hm2 hq.out.1 ht hv _ _ _ hrr hb
        clear hm2
        go_wp2_with fail
        refine (kr hb6).mono ?_
        rintro e w7 ⟨q2, rfl, hn, hb7⟩
        clear hb6
        have kY := ky _ _ hn.out hb7
        go_wp2_with fail
        refine kY.mono ?_
        rintro e w8 ⟨rfl, hb8⟩
        clear hb7
        go_wp2_with fail
        refine (cAw _ hb8).mono ?_
        rintro e w9 ⟨rfl, hb9⟩
        clear hb8
        go_wp2
        go_ret
        exact ⟨rfl, HQ.out.trans (hb9.mono HQ.out.size)⟩
  · have cR := run_form_ct hl1 s hs fuel (by cases h1 : validB l <;> cases h2 : isTree s <;> simp_all)
    obtain ⟨bv, hbv⟩ : ∃ b, validB l = b := ⟨_, rfl⟩
    have cV := cvalid_ct hl1 _ hbv
    cases bv with
    | false =>
      clear hbv hl1 hgood
      go_wp2_with fail
      refine (cR _ (Below.refl _ _)).mono ?_
      rintro e w1 ⟨rfl, hb1⟩
      go_wp2_with fail
      refine (cSame _ hb1).mono ?_
      rintro e w2 ⟨rfl, hb2⟩
      clear hb1
      go_wp2_with fail
      refine (cV _ hb2).mono ?_
      rintro e w3 ⟨rfl, hb3⟩
      clear hb2
      go_wp2_with fail
      refine (cAw _ hb3).mono ?_
      rintro e w4 ⟨rfl, hb4⟩
      clear hb3
      go_wp2
      go_ret
      exact ⟨rfl, HQ.out.trans (hb4.mono HQ.out.size)⟩
    | true =>
      have htr : isTree s = false := by cases h2 : isTree s <;> simp_all
      have cT := tvalid_ct (w := wB) s hs _ htr
      clear hbv hl1 hgood htr
      go_wp2_with fail
      refine (cR _ (Below.refl _ _)).mono ?_
      rintro e w1 ⟨rfl, hb1⟩
      go_wp2_with fail
      refine (cSame _ hb1).mono ?_
      rintro e w2 ⟨rfl, hb2⟩
      clear hb1
      go_wp2_with fail
      refine (cV _ hb2).mono ?_
      rintro e w3 ⟨rfl, hb3⟩
      clear hb2
      go_wp2_with fail
      refine (cT _ hb3).mono ?_
      rintro e w4 ⟨rfl, hb4⟩
      clear hb3
      go_wp2_with fail
      refine (cAw _ hb4).mono ?_
      rintro e w5 ⟨rfl, hb5⟩
      clear hb4
      go_wp2
      go_ret
      exact ⟨rfl, HQ.out.trans (hb5.mono HQ.out.size)⟩

end Go.Proofs.Ytieocihlkpipmaa

/- The walks of the laws of narcissuslaw03: RunAfters. Contracts at a world, for walks that go from call to call. The walk of narcissuslaw03.copied. And append of another slice's elements, as a step of a region that draws. The walk of run.Step. The walks of narcissuslaw03: RunSteps. The walks of narcissuslaw03: RunTouches. -/
import Derived.Test.YtieocihlkpipmaaLaw03c
import Derived.Test.YtieocihlkpipmaaRunA
import Derived.Test.YtieocihlkpipmaaRef3F
namespace Go.Proofs.Ytieocihlkpipmaa
open Go.RowKit

set_option maxHeartbeats 1000000 in
theorem none_any (n : Int) (u : Value) (L : List ByteArray) (b : Bool) (hb : ((n == 0) && ((L.length : Int) == 0)) = b) (w : World) (hu : StrRow w w.heap.size u L) :
    Calls Try.prog 39 #[.agg #[.int .i64 n, u]] w fun e w' => e = .returned (.bool b) ∧ Below w.heap.size w w' := by
  obtain ⟨a, c, rfl⟩ := hu.len
  obtain ⟨m, hm⟩ : ∃ m, L.length = m := ⟨_, rfl⟩
  rw [hm] at hb ⊢
  have HB := Lib.hid hb
  clear hu hm hb
  have hb1 := (Below.refl w.heap.size w).alloc (Nat.le_refl _) (.cells #[.int .i64 n, .slice a m c] 53)
  by_cases h0 : n = 0
  · subst h0
    go_enter Try.func39, Try.ntmps39
    go_wp2
    go_ret
    exact ⟨by rw [← HB.out]; simp, hb1⟩
  · have hn : (n == 0) = false := by rw [beq_eq_false_iff_ne]; exact h0
    have hbf : b = false := by rw [← HB.out, hn]; rfl
    clear h0
    go_enter Try.func39, Try.ntmps39
    go_wp2
    go_ret
    exact ⟨by rw [hbf]; rfl, hb1⟩
theorem none_ct {w : World} {n : Int} {u : Value} {L : List ByteArray} (b : Bool) (hb : ((n == 0) && ((L.length : Int) == 0)) = b) (hu : StrRow w w.heap.size u L) : Ct w 39 #[.agg #[.int .i64 n, u]] (.bool b) :=
  Ct.of fun w' hw => none_any n u L b hb w' ((hu.below hw).mono hw.size)
/-- After, relative to a world. -/
def AftCt (w : World) (v : Value) (s : ByteArray) (k : Int) (n : Int) (L : List ByteArray) (LL : Nat) (m : Nat) (er : Int) : Prop :=
  ∀ w', Below w.heap.size w w' → Calls Try.prog 38 #[v, .string s, .int .i64 k] w' fun e w'' => ∃ ua uc, e = .returned (.tuple #[.agg #[.int .i64 n, .slice ua LL uc], .int .i64 m, .int .i64 er]) ∧ Hid (StrRow w'' w''.heap.size (.slice ua LL uc) L) ∧ Below w.heap.size w w''
theorem aft_ct {w : World} {v : Value} {s : ByteArray} {k n : Int} {L : List ByteArray} {LL m : Nat} {er : Int} (hL : L.length = LL) (h : ∀ w', Below w.heap.size w w' → Calls Try.prog 38 #[v, .string s, .int .i64 k] w' (AftOut w' n L m er)) : AftCt w v s k n L LL m er := fun w' hb =>
  (h w' hb).mono fun e w'' ⟨u, h1, h2, h3⟩ => by
    obtain ⟨ua, uc, rfl⟩ := h2.len
    rw [hL] at h1 h2
    exact ⟨ua, uc, h1, h2, hb.trans (h3.mono hb.size)⟩
theorem aft_form_ct {w : World} {v : Value} {l : List Ins} (hl : InsRow w w.heap.size v l) (s : ByteArray) (hs : s.size ≤ 140737488355328) (k : Int) (h : validB l = false ∨ isTree s = false) : AftCt w v s k 0 [] 0 0 1 :=
  aft_ct rfl fun w' hb => after_bad v l s k w' 1 ((hl.below hb).mono hb.size) (.inl rfl) (fun w2 h2 => begin_form v l s k w2 h2 hs h)
theorem aft_arg_ct {w : World} {v : Value} {l : List Ins} (hl : InsRow w w.heap.size v l) (s : ByteArray) (hs : s.size ≤ 140737488355328) (k : Int) (hv : validB l = true) (ht : isTree s = true) (hk : k < 0 ∨ 10000000 < k) : AftCt w v s k 0 [] 0 0 2 :=
  aft_ct rfl fun w' hb => after_bad v l s k w' 2 ((hl.below hb).mono hb.size) (.inr rfl) (fun w2 h2 => begin_arg v l s k w2 h2 hs hv ht hk)
theorem aft_ok_ct {w : World} {v : Value} {l : List Ins} (hl : InsRow w w.heap.size v l) (hv : validB l = true) (t : Tr) (ht : t.size ≤ 2000000) (K : Nat) (hK : K ≤ 10000000) (n : Int) (L : List ByteArray) (LL : Nat) (hL : L.length = LL) (m : Nat) (er : Int) (hr : (goF l K 0 (startS t)).after = (n, L, m, er)) : AftCt w v (TS t) K n L LL m er :=
  aft_ct hL fun w' hb => after_ok v l t ht K hK w' ((hl.below hb).mono hb.size) hv n L m er hr
theorem raft_ct {w w' : World} {gm : Nat} {l : List Ins} {pv tv : Value} {t : Tr} {q : Option Addr} {K : Nat} (hK : K ≤ 100000000) (hm : RMachP w' w'.heap.size gm l pv tv) (hx : NodeP 114 w' t (.pointer q)) (ht : t.size ≤ 2000000) (hv : validB l = true) (R : Res) (hr : goF l K 0 (startS t) = R) (_ : Below w.heap.size w w') :
    Calls Try.prog 40 #[.pointer (some ⟨gm, 0, none⟩), .pointer q, .int .i64 K] w' (RAft w' R) := by
  rw [← hr]; exact rafter_any w' gm l pv tv t _ K hK hm hx ht (validB_all hv) (validB_len hv)

theorem sameB_self (l : List ByteArray) : sameB l l = true := by unfold sameB; exact decide_eq_true rfl

set_option maxRecDepth 100000 in
set_option maxHeartbeats 4000000 in
theorem law_RunAfters {w : World} (v : Value) (l : List Ins) (hl : InsRow w w.heap.size v l) (s : ByteArray) (hs : s.size ≤ 140737488355328) (fuel : Int) (hf : -9223372036854775808 ≤ fuel ∧ fuel ≤ 9223372036854775807) :
    Calls Try.prog 8 #[v, .string s, .int .i64 fuel] w fun e w' => e = .returned (.bool true) ∧ Below w.heap.size w w' := by
  have kt := twin_any v l w hl
  go_enter Try.func8, Try.ntmps8
  go_wp2_with fail
  refine kt.mono ?_
  rintro e wB ⟨v', rfl, hv', hb1⟩
  have HQ := Lib.hid hb1
  have hl1 := (hl.below hb1).mono hb1.size
  clear kt hl hb1
  by_cases hgood : validB l = true ∧ isTree s = true
  · obtain ⟨hv, htr⟩ := hgood
    by_cases hf1 : fuel < 0 ∨ 10000000 < fuel
    · have cA := aft_arg_ct hl1 s hs fuel hv htr hf1
      go_wp2_with fail
      refine (cA _ (Below.refl _ _)).mono ?_
      rintro e wA ⟨ua, uc, rfl, hu, hb2⟩
      obtain ⟨W, hW⟩ : ∃ W, wA.alloc (.cells #[.int .i64 0, (.slice ua 0 uc)] 53) = W := ⟨_, rfl⟩
      have hq : Below wA.heap.size wA W := by rw [← hW]; exact (Below.refl _ _).alloc (Nat.le_refl _) _
      have d0 : W.cell? ⟨wA.heap.size, 0, none⟩ = some (.int .i64 0) := by rw [← hW]; exact (block_cells (heap_alloc_new wA _)).1 0
      have d1 : W.cell? ⟨wA.heap.size, 1, none⟩ = some (.slice ua 0 uc) := by rw [← hW]; exact (block_cells (heap_alloc_new wA _)).1 1
      have hlt : wA.heap.size < W.heap.size := by rw [← hW]; simp
      have hrow := (hu.out.below hq).mono hq.size
      have hbW := hb2.trans (hq.mono hb2.size)
      have QBW := Lib.hid hbW
      have D0 := Lib.hid d0
      have D1 := Lib.hid d1
      have hlW := (hl1.below hbW).mono hbW.size
      have cSame := same_ct hlW ((hv'.below hbW).mono hbW.size) true (sameP_self l)
      have cAw := awake03_ct W
      have cN := none_ct (n := 0) (L := []) true (by rfl) hrow
      have cV := cvalid_ct hlW _ hv
      have cT := tvalid_ct (w := W) s hs _ htr
      clear hq hb2 hu d0 d1 hbW hlW hl1 hv'
      clear hv htr
      rcases hf1 with hf1 | hf1
      all_goals
        go_wp2_with fail
        refine (cSame _ (Below.refl _ _)).mono ?_
        rintro e w1 ⟨rfl, hb1⟩
        go_wp2_with fail
        refine (cV _ hb1).mono ?_
        rintro e w2 ⟨rfl, hb2⟩
        clear hb1
        go_wp2_with fail
        refine (cT _ hb2).mono ?_
        rintro e w3 ⟨rfl, hb3⟩
        clear hb2
        have e0 := (hb3.cell (p := ⟨wA.heap.size, 0, none⟩) hlt).trans D0.out
        have e1 := (hb3.cell (p := ⟨wA.heap.size, 1, none⟩) hlt).trans D1.out
        go_wp2_with fail
        refine (cN _ hb3).mono ?_
        rintro e w4 ⟨rfl, hb4⟩
        clear hb3
        go_wp2_with fail
        refine (cAw _ hb4).mono ?_
        rintro e w5 ⟨rfl, hb5⟩
        clear hb4
        go_wp2
        go_ret
        exact ⟨rfl, HQ.out.trans ((QBW.out.trans (hb5.mono QBW.out.size)).mono HQ.out.size)⟩
    · obtain ⟨t, rfl, ht⟩ := isTree_get htr
      obtain ⟨K, rfl⟩ := Int.eq_ofNat_of_zero_le (by omega : 0 ≤ fuel)
      have hK : K ≤ 10000000 := by omega
      have hKI : (K : Int) ≤ 10000000 := by omega
      have hgd := goF_good (validB_all hv) (f := K) (n := 0) (Good.start l.length t ht)
      cases hR : goF l K 0 (startS t) with
      | big =>
        have cA := aft_ok_ct hl1 hv t ht K hK 0 [] 0 rfl 0 3 (by rw [hR]; rfl)
        go_wp2_with fail
        refine (cA _ (Below.refl _ _)).mono ?_
        rintro e wA ⟨ua, uc, rfl, hu, hb2⟩
        obtain ⟨W, hW⟩ : ∃ W, wA.alloc (.cells #[.int .i64 0, (.slice ua 0 uc)] 53) = W := ⟨_, rfl⟩
        have hq : Below wA.heap.size wA W := by rw [← hW]; exact (Below.refl _ _).alloc (Nat.le_refl _) _
        have d0 : W.cell? ⟨wA.heap.size, 0, none⟩ = some (.int .i64 0) := by rw [← hW]; exact (block_cells (heap_alloc_new wA _)).1 0
        have d1 : W.cell? ⟨wA.heap.size, 1, none⟩ = some (.slice ua 0 uc) := by rw [← hW]; exact (block_cells (heap_alloc_new wA _)).1 1
        have hlt : wA.heap.size < W.heap.size := by rw [← hW]; simp
        have hrow := (hu.out.below hq).mono hq.size
        have hbW := hb2.trans (hq.mono hb2.size)
        have QBW := Lib.hid hbW
        have D0 := Lib.hid d0
        have D1 := Lib.hid d1
        have hlW := (hl1.below hbW).mono hbW.size
        have cSame := same_ct hlW ((hv'.below hbW).mono hbW.size) true (sameP_self l)
        have cAw := awake03_ct W
        have cN := none_ct (n := 0) (L := []) true (by rfl) hrow
        have cV := cvalid_ct hlW _ hv
        have cT := tvalid_ct (w := W) (TS t) hs _ htr
        have cLoad := load_ct hlW hv
        have cRead := read_ct (w := W) t ht
        clear hq hb2 hu d0 d1 hbW hlW hl1 hv'
        have HR := Lib.hid hR
        have HV := Lib.hid hv
        clear htr hf1 hgd hR hv
        generalize TS t = S at *
        go_wp2_with fail
        refine (cSame _ (Below.refl _ _)).mono ?_
        rintro e w1 ⟨rfl, hb1⟩
        go_wp2_with fail
        refine (cV _ hb1).mono ?_
        rintro e w2 ⟨rfl, hb2⟩
        clear hb1
        go_wp2_with fail
        refine (cT _ hb2).mono ?_
        rintro e w3 ⟨rfl, hb3⟩
        clear hb2
        go_wp2_with fail
        refine (cLoad _ hb3).mono ?_
        rintro e w4 ⟨gm, tv, rfl, hm, hb4⟩
        clear hb3
        go_wp2_with fail
        refine (cRead _ hb4).mono ?_
        rintro e w5 ⟨q, rfl, hq, hb5⟩
        clear hb4
        have hm2 := hm.out.below hq.out.2
        have kr := fun hb => raft_ct (w := W) (by omega) hm2 hq.out.1 ht HV.out _ HR.out hb
        clear hm2
        go_wp2_with fail
        refine (kr hb5).mono ?_
        rintro e w6 ⟨pz, nz, rfl, hq6⟩
        have hb6 := hb5.trans (hq6.mono hb5.size)
        clear hq6
        have e0 := (hb6.cell (p := ⟨wA.heap.size, 0, none⟩) hlt).trans D0.out
        have e1 := (hb6.cell (p := ⟨wA.heap.size, 1, none⟩) hlt).trans D1.out
        go_wp2_with fail
        refine (cN _ hb6).mono ?_
        rintro e w7 ⟨rfl, hb7⟩
        clear hb6
        go_wp2_with fail
        refine (cAw _ hb7).mono ?_
        rintro e w8 ⟨rfl, hb8⟩
        clear hb7
        go_wp2
        go_ret
        exact ⟨rfl, HQ.out.trans ((QBW.out.trans (hb8.mono QBW.out.size)).mono HQ.out.size)⟩
      | fuel s' n =>
        have hgs := hgd.2 s' n hR
        have cA := aft_ok_ct hl1 hv t ht K hK s'.pos (s'.regs.map TS) 32 (by simp [hgs.2.1]) n 0 (by rw [hR]; rfl)
        go_wp2_with fail
        refine (cA _ (Below.refl _ _)).mono ?_
        rintro e wA ⟨ua, uc, rfl, hu, hb2⟩
        obtain ⟨W, hW⟩ : ∃ W, wA.alloc (.cells #[.int .i64 s'.pos, (.slice ua 32 uc)] 53) = W := ⟨_, rfl⟩
        have hq : Below wA.heap.size wA W := by rw [← hW]; exact (Below.refl _ _).alloc (Nat.le_refl _) _
        have d0 : W.cell? ⟨wA.heap.size, 0, none⟩ = some (.int .i64 s'.pos) := by rw [← hW]; exact (block_cells (heap_alloc_new wA _)).1 0
        have d1 : W.cell? ⟨wA.heap.size, 1, none⟩ = some (.slice ua 32 uc) := by rw [← hW]; exact (block_cells (heap_alloc_new wA _)).1 1
        have hlt : wA.heap.size < W.heap.size := by rw [← hW]; simp
        have hrow := (hu.out.below hq).mono hq.size
        have hbW := hb2.trans (hq.mono hb2.size)
        have QBW := Lib.hid hbW
        have D0 := Lib.hid d0
        have D1 := Lib.hid d1
        have hlW := (hl1.below hbW).mono hbW.size
        have cSame := same_ct hlW ((hv'.below hbW).mono hbW.size) true (sameP_self l)
        have cAw := awake03_ct W
        have cV := cvalid_ct hlW _ hv
        have cT := tvalid_ct (w := W) (TS t) hs _ htr
        have cLoad := load_ct hlW hv
        have cRead := read_ct (w := W) t ht
        clear hq hb2 hu d0 d1 hbW hlW hl1 hv'
        clear htr hf1 hgd
        generalize TS t = S at *
        go_wp2_with fail
        refine (cSame _ (Below.refl _ _)).mono ?_
        rintro e w1 ⟨rfl, hb1⟩
        go_wp2_with fail
        refine (cV _ hb1).mono ?_
        rintro e w2 ⟨rfl, hb2⟩
        clear hb1
        go_wp2_with fail
        refine (cT _ hb2).mono ?_
        rintro e w3 ⟨rfl, hb3⟩
        clear hb2
        go_wp2_with fail
        refine (cLoad _ hb3).mono ?_
        rintro e w4 ⟨gm, tv, rfl, hm, hb4⟩
        clear hb3
        go_wp2_with fail
        refine (cRead _ hb4).mono ?_
        rintro e w5 ⟨q, rfl, hq, hb5⟩
        clear hb4
        have hm2 := hm.out.below hq.out.2
        have kr := fun hb => raft_ct (w := W) (by omega) hm2 hq.out.1 ht hv _ hR hb
        clear hm2
        go_wp2_with fail
        refine (kr hb5).mono ?_
        rintro e w6 ⟨gs, gr, cp, ps, rfl, hs, hgr, hb6'⟩
        have hb6 := hb5.trans (hb6'.mono hb5.size)
        have e0 := (hb6.cell (p := ⟨wA.heap.size, 0, none⟩) hlt).trans D0.out
        have e1 := (hb6.cell (p := ⟨wA.heap.size, 1, none⟩) hlt).trans D1.out
        have hlt6 : wA.heap.size < w6.heap.size := by have := hb6.size; omega
        have keep : ∀ w', Below w6.heap.size w6 w' → w'.cell? ⟨wA.heap.size, 0, none⟩ = some (.int .i64 s'.pos) ∧ w'.cell? ⟨wA.heap.size, 1, none⟩ = some (.slice ua 32 uc) := fun w' hb => ⟨(hb.cell (p := ⟨wA.heap.size, 0, none⟩) hlt6).trans e0, (hb.cell (p := ⟨wA.heap.size, 1, none⟩) hlt6).trans e1⟩
        have kT : ∀ w', Below w6.heap.size w6 w' → Calls Try.prog 42 #[.pointer (some ⟨gs, 0, none⟩)] w' fun e w'' => ∃ x, e = .returned (.agg #[.int .i64 s'.pos, x]) ∧ Hid (StrRow w'' w''.heap.size x (s'.regs.map TS)) ∧ Below w6.heap.size w6 w'' := fun w' hb => by
          refine (rtext_any w' _ gs gr cp l.length s' ps (by rw [hgs.2.1]; exact hs.kept hb) hgs).mono ?_
          rintro e w'' ⟨x, h1, h2, h3⟩
          exact ⟨x, h1, h2, hb.trans (h3.mono hb.size)⟩
        have kS : ∀ w' x, StrRow w' w'.heap.size x (s'.regs.map TS) → Below w6.heap.size w6 w' → Calls Try.prog 41 #[.agg #[.int .i64 s'.pos, .slice ua 32 uc], .agg #[.int .i64 s'.pos, x]] w' fun e w'' => e = .returned (.bool true) ∧ Below w6.heap.size w6 w'' := fun w' x hx hb => by
          have hb' := hb6.trans (hb.mono hb6.size)
          refine (sameState_any _ _ _ x _ _ w' ((hrow.below hb').mono hb'.size) hx).mono ?_
          rintro e w'' ⟨rfl, h2⟩
          exact ⟨by simp [sameS, sameB_self], hb.trans (h2.mono hb.size)⟩
        have kA : ∀ w', Below w6.heap.size w6 w' → Calls Try.prog 25 #[] w' fun e w'' => e = .returned (.bool true) ∧ Below w6.heap.size w6 w'' := awake03_ct w6
        have HB6 := Lib.hid hb6
        have HKEEP := Lib.hid keep
        have HKT := Lib.hid kT
        have HKS := Lib.hid kS
        have HKA := Lib.hid kA
        clear kr hb5 hb6 hb6' keep kT kS kA hs hgr hrow
        go_wp2
        go_region_held3 (fun w' => w'.cell? ⟨wA.heap.size, 0, none⟩ = some (.int .i64 s'.pos) ∧ w'.cell? ⟨wA.heap.size, 1, none⟩ = some (.slice ua 32 uc))
          (with_reducible (first | exact HKEEP.out _ hbA | exact HKEEP.out _ hbS | exact HKEEP.out _ hbT | exact HKEEP.out _ (Below.refl _ _) | exact HKEEP.out _ (Below.refl _ _).drew))
          ((first
            | ((with_reducible refine (HKT.out _ (by first | exact Below.refl _ _ | exact (Below.refl _ _).drew)).mono ?_); rintro e wT ⟨x, rfl, hx, hbT⟩)
            | ((with_reducible refine (HKS.out _ _ hx.out hbT).mono ?_); rintro e wS ⟨rfl, hbS⟩)
            | ((with_reducible refine (HKA.out _ hbS).mono ?_); rintro e wZ ⟨rfl, hbA⟩)))
        go_wp2
        go_ret
        have hb7 := HB6.out.trans (hbA.mono HB6.out.size)
        exact ⟨rfl, HQ.out.trans ((QBW.out.trans (hb7.mono QBW.out.size)).mono HQ.out.size)⟩
      | done s' n =>
        have hgs := hgd.1 s' n hR
        have cA := aft_ok_ct hl1 hv t ht K hK s'.pos (s'.regs.map TS) 32 (by simp [hgs.2.1]) n 0 (by rw [hR]; rfl)
        go_wp2_with fail
        refine (cA _ (Below.refl _ _)).mono ?_
        rintro e wA ⟨ua, uc, rfl, hu, hb2⟩
        obtain ⟨W, hW⟩ : ∃ W, wA.alloc (.cells #[.int .i64 s'.pos, (.slice ua 32 uc)] 53) = W := ⟨_, rfl⟩
        have hq : Below wA.heap.size wA W := by rw [← hW]; exact (Below.refl _ _).alloc (Nat.le_refl _) _
        have d0 : W.cell? ⟨wA.heap.size, 0, none⟩ = some (.int .i64 s'.pos) := by rw [← hW]; exact (block_cells (heap_alloc_new wA _)).1 0
        have d1 : W.cell? ⟨wA.heap.size, 1, none⟩ = some (.slice ua 32 uc) := by rw [← hW]; exact (block_cells (heap_alloc_new wA _)).1 1
        have hlt : wA.heap.size < W.heap.size := by rw [← hW]; simp
        have hrow := (hu.out.below hq).mono hq.size
        have hbW := hb2.trans (hq.mono hb2.size)
        have QBW := Lib.hid hbW
        have D0 := Lib.hid d0
        have D1 := Lib.hid d1
        have hlW := (hl1.below hbW).mono hbW.size
        have cSame := same_ct hlW ((hv'.below hbW).mono hbW.size) true (sameP_self l)
        have cAw := awake03_ct W
        have cV := cvalid_ct hlW _ hv
        have cT := tvalid_ct (w := W) (TS t) hs _ htr
        have cLoad := load_ct hlW hv
        have cRead := read_ct (w := W) t ht
        clear hq hb2 hu d0 d1 hbW hlW hl1 hv'
        clear htr hf1 hgd
        generalize TS t = S at *
        go_wp2_with fail
        refine (cSame _ (Below.refl _ _)).mono ?_
        rintro e w1 ⟨rfl, hb1⟩
        go_wp2_with fail
        refine (cV _ hb1).mono ?_
        rintro e w2 ⟨rfl, hb2⟩
        clear hb1
        go_wp2_with fail
        refine (cT _ hb2).mono ?_
        rintro e w3 ⟨rfl, hb3⟩
        clear hb2
        go_wp2_with fail
        refine (cLoad _ hb3).mono ?_
        rintro e w4 ⟨gm, tv, rfl, hm, hb4⟩
        clear hb3
        go_wp2_with fail
        refine (cRead _ hb4).mono ?_
        rintro e w5 ⟨q, rfl, hq, hb5⟩
        clear hb4
        have hm2 := hm.out.below hq.out.2
        have kr := fun hb => raft_ct (w := W) (by omega) hm2 hq.out.1 ht hv _ hR hb
        clear hm2
        go_wp2_with fail
        refine (kr hb5).mono ?_
        rintro e w6 ⟨gs, gr, cp, ps, rfl, hs, hgr, hb6'⟩
        have hb6 := hb5.trans (hb6'.mono hb5.size)
        have e0 := (hb6.cell (p := ⟨wA.heap.size, 0, none⟩) hlt).trans D0.out
        have e1 := (hb6.cell (p := ⟨wA.heap.size, 1, none⟩) hlt).trans D1.out
        have hlt6 : wA.heap.size < w6.heap.size := by have := hb6.size; omega
        have keep : ∀ w', Below w6.heap.size w6 w' → w'.cell? ⟨wA.heap.size, 0, none⟩ = some (.int .i64 s'.pos) ∧ w'.cell? ⟨wA.heap.size, 1, none⟩ = some (.slice ua 32 uc) := fun w' hb => ⟨(hb.cell (p := ⟨wA.heap.size, 0, none⟩) hlt6).trans e0, (hb.cell (p := ⟨wA.heap.size, 1, none⟩) hlt6).trans e1⟩
        have kT : ∀ w', Below w6.heap.size w6 w' → Calls Try.prog 42 #[.pointer (some ⟨gs, 0, none⟩)] w' fun e w'' => ∃ x, e = .returned (.agg #[.int .i64 s'.pos, x]) ∧ Hid (StrRow w'' w''.heap.size x (s'.regs.map TS)) ∧ Below w6.heap.size w6 w'' := fun w' hb => by
          refine (rtext_any w' _ gs gr cp l.length s' ps (by rw [hgs.2.1]; exact hs.kept hb) hgs).mono ?_
          rintro e w'' ⟨x, h1, h2, h3⟩
          exact ⟨x, h1, h2, hb.trans (h3.mono hb.size)⟩
        have kS : ∀ w' x, StrRow w' w'.heap.size x (s'.regs.map TS) → Below w6.heap.size w6 w' → Calls Try.prog 41 #[.agg #[.int .i64 s'.pos, .slice ua 32 uc], .agg #[.int .i64 s'.pos, x]] w' fun e w'' => e = .returned (.bool true) ∧ Below w6.heap.size w6 w'' := fun w' x hx hb => by
          have hb' := hb6.trans (hb.mono hb6.size)
          refine (sameState_any _ _ _ x _ _ w' ((hrow.below hb').mono hb'.size) hx).mono ?_
          rintro e w'' ⟨rfl, h2⟩
          exact ⟨by simp [sameS, sameB_self], hb.trans (h2.mono hb.size)⟩
        have kA : ∀ w', Below w6.heap.size w6 w' → Calls Try.prog 25 #[] w' fun e w'' => e = .returned (.bool true) ∧ Below w6.heap.size w6 w'' := awake03_ct w6
        have HB6 := Lib.hid hb6
        have HKEEP := Lib.hid keep
        have HKT := Lib.hid kT
        have HKS := Lib.hid kS
        have HKA := Lib.hid kA
        clear kr hb5 hb6 hb6' keep kT kS kA hs hgr hrow
        go_wp2
        go_region_held3 (fun w' => w'.cell? ⟨wA.heap.size, 0, none⟩ = some (.int .i64 s'.pos) ∧ w'.cell? ⟨wA.heap.size, 1, none⟩ = some (.slice ua 32 uc))
          (with_reducible (first | exact HKEEP.out _ hbA | exact HKEEP.out _ hbS | exact HKEEP.out _ hbT | exact HKEEP.out _ (Below.refl _ _) | exact HKEEP.out _ (Below.refl _ _).drew))
          ((first
            | ((with_reducible refine (HKT.out _ (by first | exact Below.refl _ _ | exact (Below.refl _ _).drew)).mono ?_); rintro e wT ⟨x, rfl, hx, hbT⟩)
            | ((with_reducible refine (HKS.out _ _ hx.out hbT).mono ?_); rintro e wS ⟨rfl, hbS⟩)
            | ((with_reducible refine (HKA.out _ hbS).mono ?_); rintro e wZ ⟨rfl, hbA⟩)))
        go_wp2
        go_ret
        have hb7 := HB6.out.trans (hbA.mono HB6.out.size)
        exact ⟨rfl, HQ.out.trans ((QBW.out.trans (hb7.mono QBW.out.size)).mono HQ.out.size)⟩
  · have cA := aft_form_ct hl1 s hs fuel (by cases h1 : validB l <;> cases h2 : isTree s <;> simp_all)
    obtain ⟨bv, hbv⟩ : ∃ b, validB l = b := ⟨_, rfl⟩
    cases bv with
    | false =>
      go_wp2_with fail
      refine (cA _ (Below.refl _ _)).mono ?_
      rintro e wA ⟨ua, uc, rfl, hu, hb2⟩
      obtain ⟨W, hW⟩ : ∃ W, wA.alloc (.cells #[.int .i64 0, (.slice ua 0 uc)] 53) = W := ⟨_, rfl⟩
      have hq : Below wA.heap.size wA W := by rw [← hW]; exact (Below.refl _ _).alloc (Nat.le_refl _) _
      have d0 : W.cell? ⟨wA.heap.size, 0, none⟩ = some (.int .i64 0) := by rw [← hW]; exact (block_cells (heap_alloc_new wA _)).1 0
      have d1 : W.cell? ⟨wA.heap.size, 1, none⟩ = some (.slice ua 0 uc) := by rw [← hW]; exact (block_cells (heap_alloc_new wA _)).1 1
      have hlt : wA.heap.size < W.heap.size := by rw [← hW]; simp
      have hrow := (hu.out.below hq).mono hq.size
      have hbW := hb2.trans (hq.mono hb2.size)
      have QBW := Lib.hid hbW
      have D0 := Lib.hid d0
      have D1 := Lib.hid d1
      have hlW := (hl1.below hbW).mono hbW.size
      have cSame := same_ct hlW ((hv'.below hbW).mono hbW.size) true (sameP_self l)
      have cAw := awake03_ct W
      have cN := none_ct (n := 0) (L := []) true (by rfl) hrow
      have cV := cvalid_ct hlW _ hbv
      clear hq hb2 hu d0 d1 hbW hlW hl1 hv'
      clear hbv hgood
      go_wp2_with fail
      refine (cSame _ (Below.refl _ _)).mono ?_
      rintro e w1 ⟨rfl, hb1⟩
      go_wp2_with fail
      refine (cV _ hb1).mono ?_
      rintro e w2 ⟨rfl, hb2⟩
      clear hb1
      have e0 := (hb2.cell (p := ⟨wA.heap.size, 0, none⟩) hlt).trans D0.out
      have e1 := (hb2.cell (p := ⟨wA.heap.size, 1, none⟩) hlt).trans D1.out
      go_wp2_with fail
      refine (cN _ hb2).mono ?_
      rintro e w3 ⟨rfl, hb3⟩
      clear hb2
      go_wp2_with fail
      refine (cAw _ hb3).mono ?_
      rintro e w4 ⟨rfl, hb4⟩
      clear hb3
      go_wp2
      go_ret
      exact ⟨rfl, HQ.out.trans ((QBW.out.trans (hb4.mono QBW.out.size)).mono HQ.out.size)⟩
    | true =>
      have htr : isTree s = false := by cases h2 : isTree s <;> simp_all
      go_wp2_with fail
      refine (cA _ (Below.refl _ _)).mono ?_
      rintro e wA ⟨ua, uc, rfl, hu, hb2⟩
      obtain ⟨W, hW⟩ : ∃ W, wA.alloc (.cells #[.int .i64 0, (.slice ua 0 uc)] 53) = W := ⟨_, rfl⟩
      have hq : Below wA.heap.size wA W := by rw [← hW]; exact (Below.refl _ _).alloc (Nat.le_refl _) _
      have d0 : W.cell? ⟨wA.heap.size, 0, none⟩ = some (.int .i64 0) := by rw [← hW]; exact (block_cells (heap_alloc_new wA _)).1 0
      have d1 : W.cell? ⟨wA.heap.size, 1, none⟩ = some (.slice ua 0 uc) := by rw [← hW]; exact (block_cells (heap_alloc_new wA _)).1 1
      have hlt : wA.heap.size < W.heap.size := by rw [← hW]; simp
      have hrow := (hu.out.below hq).mono hq.size
      have hbW := hb2.trans (hq.mono hb2.size)
      have QBW := Lib.hid hbW
      have D0 := Lib.hid d0
      have D1 := Lib.hid d1
      have hlW := (hl1.below hbW).mono hbW.size
      have cSame := same_ct hlW ((hv'.below hbW).mono hbW.size) true (sameP_self l)
      have cAw := awake03_ct W
      have cN := none_ct (n := 0) (L := []) true (by rfl) hrow
      have cV := cvalid_ct hlW _ hbv
      have cT := tvalid_ct (w := W) s hs _ htr
      clear hq hb2 hu d0 d1 hbW hlW hl1 hv'
      clear hbv hgood htr
      go_wp2_with fail
      refine (cSame _ (Below.refl _ _)).mono ?_
      rintro e w1 ⟨rfl, hb1⟩
      go_wp2_with fail
      refine (cV _ hb1).mono ?_
      rintro e w2 ⟨rfl, hb2⟩
      clear hb1
      go_wp2_with fail
      refine (cT _ hb2).mono ?_
      rintro e w3 ⟨rfl, hb3⟩
      clear hb2
      have e0 := (hb3.cell (p := ⟨wA.heap.size, 0, none⟩) hlt).trans D0.out
      have e1 := (hb3.cell (p := ⟨wA.heap.size, 1, none⟩) hlt).trans D1.out
      go_wp2_with fail
      refine (cN _ hb3).mono ?_
      rintro e w4 ⟨rfl, hb4⟩
      clear hb3
      go_wp2_with fail
      refine (cAw _ hb4).mono ?_
      rintro e w5 ⟨rfl, hb5⟩
      clear hb4
      go_wp2
      go_ret
      exact ⟨rfl, HQ.out.trans ((QBW.out.trans (hb5.mono QBW.out.size)).mono HQ.out.size)⟩

end Go.Proofs.Ytieocihlkpipmaa

namespace Go.Proofs.Ytieocihlkpipmaa
open Go.RowKit

theorem blk_lift {A B : World} {b : Nat} {o : Obj} (hb : Below A.heap.size A B) (h : A.heap[b]? = some o) : B.heap[b]? = some o := below_blk hb h (Array.getElem?_eq_some_iff.1 h).1
theorem same_at {w : World} {v v' : Value} {l l' : List Ins} (b : Bool) (h1 : InsRow w w.heap.size v l) (h2 : InsRow w w.heap.size v' l') (hb : sameP l l' = b) : Calls Try.prog 22 #[v, v'] w fun e w' => e = .returned (.bool b) ∧ Below w.heap.size w w' := same_ct h1 h2 b hb w (Below.refl _ _)
theorem same_self {w : World} {v v' : Value} {l : List Ins} (h1 : InsRow w w.heap.size v l) (h2 : InsRow w w.heap.size v' l) : Calls Try.prog 22 #[v, v'] w fun e w' => e = .returned (.bool true) ∧ Below w.heap.size w w' := same_at true h1 h2 (sameP_self l)
theorem cvalid_at {w : World} {v : Value} {l : List Ins} (b : Bool) (hb : validB l = b) (h1 : InsRow w w.heap.size v l) : Calls Try.prog 23 #[v] w fun e w' => e = .returned (.bool b) ∧ Below w.heap.size w w' := cvalid_ct h1 b hb w (Below.refl _ _)
theorem tvalid_at (s : ByteArray) (hs : s.size ≤ 140737488355328) (b : Bool) (hb : isTree s = b) (w : World) : Calls Try.prog 24 #[.string s] w fun e w' => e = .returned (.bool b) ∧ Below w.heap.size w w' := tvalid_ct s hs b hb w (Below.refl _ _)
/-- Run, where it may run. -/
theorem runOk_at {w : World} {v : Value} {l : List Ins} {t : Tr} {S : ByteArray} (K : Nat) (Ki : Int) (y : ByteArray) (k : Nat) (er : Int) (hr : (goF l K 0 (startS t)).run = (y, k, er)) (hv : validB l = true) (ht : t.size ≤ 2000000) (hS : TS t = S) (hKi : Ki = K) (hK : K ≤ 10000000) (hl : InsRow w w.heap.size v l) :
    Calls Try.prog 21 #[v, .string S, .int .i64 Ki] w fun e w' => e = .returned (.tuple #[.string y, .int .i64 k, .int .i64 er]) ∧ Below w.heap.size w w' := run_at hv ht hS K Ki hKi hK y k er hr w v hl (Below.refl _ _)

end Go.Proofs.Ytieocihlkpipmaa

namespace Go.Proofs.Ytieocihlkpipmaa
open Go.RowKit

theorem step_src {P : Program} {tS tE : Nat} {z : Value} {sz by_ : Nat} (E : ElemT P tS tE z sz by_) {ops : Array Oper} {o : Oper} {a : Act} {K : Act → World → Prop} {Q : Exit → Act → World → Prop} {EE : Prop}
    (hgd : o.guard = none) (s x : Operand) (ho : o.op = .call { callee := .builtin .append, args := #[s, x], argTypes := #[tS, tS] }) {w : World} {base : Nat} {v vx : Value} {n m : Nat} {xs news : List Value}
    (hs : a.eval s = v) (hown : w.ownsRow base tE sz v n xs) (hx : a.eval x = vx) (hsrc : Src w vx m sz news)
    (h1 : ∀ u ∈ news, u.oneCell' = true) (hby : (n + m) * by_ ≤ 140737488355328) (h63 : n + m ≤ maxLen) (hbase : base ≤ w.heap.size) {B : Nat} {w0 : World} (hb : Below B w0 w) (hB : B ≤ base)
    (h : ∀ a' c' w', w'.ownsRow base tE sz (.slice a' (n + m) c') (n + m) (xs ++ news) → Below B w0 w' → w.grownBy w' v.ownBlock → K (a.put o.dst (.slice a' (n + m) c')) w') :
    if Region.wanted o (yielded ops a.tmps) = true then Oper.wp P o a w K Q else EE := by
  obtain ⟨i, hi, hz, hsize, hbytes⟩ := info_parts E.hi
  have hlt := hown.lt
  have hw : Region.wanted o (yielded ops a.tmps) = true := by simp [Region.wanted, hgd]
  rw [if_pos hw]
  have fin : ∀ v' w', w'.ownsRow base tE sz v' (n + m) (xs ++ news) → Below B w0 w' → w.grownBy w' v.ownBlock → K (a.put o.dst v') w' := by
    intro v' w' h2 h3 h4
    have hl : ∃ a' c', v' = .slice a' (n + m) c' := by
      rcases h2.2 with ⟨e1, e2⟩ | ⟨g, cap, cur, e, _⟩
      · refine ⟨none, 0, ?_⟩
        rw [e1, e2]
      · exact ⟨_, _, e⟩
    obtain ⟨a', c', rfl⟩ := hl
    exact h a' c' w' h2 h3 h4
  obtain ⟨hl, hc⟩ := hsrc
  rcases hc with ⟨rfl, rfl⟩ | ⟨ad, c, rfl, hcells⟩
  · have hnews : news = [] := List.eq_nil_of_length_eq_zero (by simpa using hl)
    subst hnews
    have hrun := run_append_owned_none (P := P) w base tS o.type tE i sz E.ht hi v n xs hown
    unfold Oper.wp execOp
    simp only [ho, resolve, invoke, builtin, Sem.run_bind, Sem.run_pure, Result.andThen_ok, List.map_toArray, List.map_cons, List.map_nil, hs, hx, hrun]
    exact fin v w (by simpa using hown) hb ⟨rfl, rfl, rfl, Nat.le_refl _, fun _ _ _ => rfl⟩
  · obtain ⟨v', w', hr, h2, h3, _⟩ := run_append_own (P := P) w base tS o.type tE i z sz by_ E.ht hi hz hsize hbytes E.hzs E.hsz v n xs hown ad m c news hl hcells h1 h63 hby hbase
    unfold Oper.wp execOp
    simp only [ho, resolve, invoke, builtin, Sem.run_bind, Sem.run_pure, Result.andThen_ok, List.map_toArray, List.map_cons, List.map_nil, hs, hx, hr]
    exact fin v' w' h2 (hb.grown h3 (by omega) (fun k hk => by have := (hlt k hk).1; omega)) h3

theorem own_empty (w : World) (e sz : Nat) : (w.alloc (.cells #[] e)).ownsRow w.heap.size e sz (.slice (some ⟨w.heap.size, 0, none⟩) 0 0) 0 [] := World.ownsRow_lit w #[] 0 (Nat.le_refl _) (by decide) (by simp)

set_option maxRecDepth 20000 in
set_option maxHeartbeats 4000000 in
theorem copied_any (n : Int) (u : Value) (L : List ByteArray) (hz : L.length ≤ 8796093022208) (w : World) (hu : StrRow w w.heap.size u L) :
    Calls Try.prog 48 #[.agg #[.int .i64 n, u]] w fun e w' => ∃ a c, e = .returned (.agg #[.int .i64 n, .slice a L.length c]) ∧ StrRow w' w'.heap.size (.slice a L.length c) L ∧ Below w.heap.size w w' := by
  obtain ⟨au, cu, rfl⟩ := hu.len
  have HU := Lib.hid hu
  have hsz := hu.1
  have HSZ := Lib.hid hsz
  obtain ⟨m, hm⟩ : ∃ m, L.length = m := ⟨_, rfl⟩
  rw [hm] at hu hz HU ⊢
  have HM := Lib.hid hm
  clear hm hu hsz
  obtain ⟨W, hW⟩ : ∃ W, (w.alloc (.cells #[.int .i64 n, .slice au m cu] 53)).alloc (.cells #[.int .i64 0, .slice none 0 0] 53) = W := ⟨_, rfl⟩
  have hbW : Below w.heap.size w W := by rw [← hW]; exact ((Below.refl _ w).alloc (Nat.le_refl _) _).alloc (by simp) _
  have b0 : W.heap[w.heap.size]? = some (.cells #[.int .i64 n, .slice au m cu] 53 (0, 0)) := by rw [← hW]; exact (Below.heap_alloc _ _ _ (by simp)).trans (heap_alloc_new w _)
  have b1 : W.heap[w.heap.size + 1]? = some (.cells #[.int .i64 0, .slice none 0 0] 53 (0, 0)) := by
    have := heap_alloc_new (w.alloc (.cells #[.int .i64 n, .slice au m cu] 53)) (.cells #[.int .i64 0, .slice none 0 0] 53)
    rw [World.size_alloc] at this
    rw [← hW]; exact this
  have c0 := (block_cells b0).1 0
  have c1 := (block_cells b0).1 1
  have d0 := (block_cells b1).1 0
  have d1 := (block_cells b1).1 1
  have f0 := (block_cells b1).2 0
  have f1 := (block_cells b1).2 1
  simp only [List.getElem?_toArray, List.getElem?_cons_zero, List.getElem?_cons_succ] at c0 c1 d0 d1
  have hs0 : w.heap.size + 1 < W.heap.size := (Array.getElem?_eq_some_iff.1 b1).1
  have keep : ∀ w', Below W.heap.size W w' → w'.cell? ⟨w.heap.size, 0, none⟩ = some (.int .i64 n) ∧ w'.cell? ⟨w.heap.size, 1, none⟩ = some (.slice au m cu) ∧ w'.cell? ⟨w.heap.size + 1, 0, none⟩ = some (.int .i64 0) ∧ w'.cell? ⟨w.heap.size + 1, 1, none⟩ = some (.slice none 0 0) ∧ w'.frozen? ⟨w.heap.size + 1, 0, none⟩ = false ∧ w'.frozen? ⟨w.heap.size + 1, 1, none⟩ = false := fun w' hb =>
    ⟨(hb.cell (p := ⟨w.heap.size, 0, none⟩) (by show w.heap.size < _; omega)).trans c0, (hb.cell (p := ⟨w.heap.size, 1, none⟩) (by show w.heap.size < _; omega)).trans c1, (hb.cell (p := ⟨w.heap.size + 1, 0, none⟩) hs0).trans d0, (hb.cell (p := ⟨w.heap.size + 1, 1, none⟩) hs0).trans d1,
      (hb.frozen (p := ⟨w.heap.size + 1, 0, none⟩) hs0).trans f0, (hb.frozen (p := ⟨w.heap.size + 1, 1, none⟩) hs0).trans f1⟩
  have KEEP := Lib.hid keep
  have HBW := Lib.hid hbW
  have HB1 := Lib.hid b1
  have HS : Hid (∀ w', Below W.heap.size W w' → Src w' (.slice au m cu) m 1 (L.map Value.string)) := fun w' hb => by
    have := (HU.out.below (hbW.trans (hb.mono hbW.size))).src
    rwa [HM.out] at this
  clear keep hbW b0 b1
  go_enter Try.func48, Try.ntmps48
  go_wp2
  have hq := Lib.hid (show Below W.heap.size W (W.alloc (.cells #[] 9)) from (Below.refl _ _).alloc (Nat.le_refl _) _)
  obtain ⟨g0, g1, g2, g3, g4, g5⟩ := KEEP.out _ hq.out
  go_region_law ((refine step_src el_str (by rfl) _ _ (by rfl) (by rfl) (by first | exact own_empty _ _ _ | exact own_below (own_empty W 9 1) (Below.refl _ _).drew) (by rfl) (HS.out _ (by first | exact hq.out | exact hq.out.drew | exact (Below.refl _ _).drew.alloc (Nat.le_refl _) _)) (by intro u hu; obtain ⟨y, _, rfl⟩ := List.mem_map.1 hu; rfl) (by omega) (by unfold maxLen; omega) (by first | exact Nat.le_refl _ | (simp; done) | (simp; omega)) (B := W.heap.size) (w0 := W) (by first | exact hq.out | exact hq.out.drew | exact (Below.refl _ _).drew.alloc (Nat.le_refl _) _) (by first | exact Nat.le_refl _ | (simp; done) | (simp; omega)) ?_; intro a' c' w4 hown4 hb4 hg4; obtain ⟨k0, k1, k2, k3, k4, k5⟩ := KEEP.out _ hb4))
  all_goals
    have hb1 := Lib.hid ((hb4.block (w.heap.size + 1) hs0).trans HB1.out)
    have HROW := Lib.hid hown4
    have HB4 := Lib.hid hb4
    clear k0 k1 k2 k3 k4 k5 g0 g1 g2 g3 g4 g5 c0 c1 d0 d1 f0 f1 hown4 hb4 hg4
    go_wp2
    have e1 := set_blk hb1.out 0 (.int .i64 n)
    have e2 := set_blk e1 1 (.slice a' m c')
    have q0 := (block_cells e2).1 0
    have q1 := (block_cells e2).1 1
    simp only [List.setIfInBounds_toArray, List.set_cons_zero, List.set_cons_succ, List.getElem?_toArray, List.getElem?_cons_zero, List.getElem?_cons_succ] at q0 q1
    first
    | refine bodyPost_ret (v := .agg #[.int .i64 n, .slice a' m c']) (by simp [results, Try.results48, go_sem, q0, q1]) rfl ?_
    refine ⟨_, _, rfl, ?_, ((HBW.out.trans (HB4.out.mono HBW.out.size)).setCell (p := ⟨w.heap.size + 1, 0, none⟩) (by show w.heap.size ≤ w.heap.size + 1; omega) _).setCell (p := ⟨w.heap.size + 1, 1, none⟩) (by show w.heap.size ≤ w.heap.size + 1; omega) _⟩
    refine StrRow.of_own (n := m) (e := 9) (base := W.heap.size) ?_ HSZ.out (by rw [HM.out]; omega)
    have := HROW.out
    rw [List.nil_append, Nat.zero_add] at this
    exact own_kept this (((Kept.refl _ _).setCell hb1.out (by decide) _).setCell e1 (by decide) _)

end Go.Proofs.Ytieocihlkpipmaa

namespace Go.Proofs.Ytieocihlkpipmaa
open Go.RowKit

/-- The first k registers are read. -/
def regsK (L : List ByteArray) (k : Nat) : List Tr := (L.take k).map toTr ++ List.replicate (32 - k) .nil
theorem regsK_length (L : List ByteArray) (hL : L.length = 32) (k : Nat) (hk : k ≤ 32) : (regsK L k).length = 32 := by unfold regsK; simp; omega
theorem regsK_succ (L : List ByteArray) (k : Nat) (hk : k < 32) {s : ByteArray} (hs : L[k]? = some s) : (regsK L k).set k (toTr s) = regsK L (k + 1) := by
  unfold regsK
  have hkl : k < L.length := (List.getElem?_eq_some_iff.1 hs).1
  have h1 : ((L.take k).map toTr).length = k := by simp; omega
  rw [take_snoc' _ _ _ hs, List.map_append, List.set_append_right _ _ (by omega), h1, Nat.sub_self, show 32 - k = (32 - (k + 1)) + 1 by omega, List.replicate_succ, List.set_cons_zero, List.append_assoc]
  rfl
theorem regsK_all (L : List ByteArray) (hL : L.length = 32) : regsK L 32 = L.map toTr := by unfold regsK; rw [List.take_of_length_le (by omega)]; simp
theorem regsK_get (L : List ByteArray) (hL : L.length = 32) (k : Nat) (hk : k < 32) : (regsK L k)[k]? = some .nil := by
  unfold regsK
  have h1 : ((L.take k).map toTr).length = k := by simp; omega
  rw [List.getElem?_append_right (by omega), h1, Nat.sub_self, show 32 - k = (32 - (k + 1)) + 1 by omega, List.replicate_succ]
  rfl
theorem regsK_zero (L : List ByteArray) : regsK L 0 = .nil :: List.replicate 31 .nil := rfl

/-- Step's variables: the state that came in, the state that is handed back. -/
structure StpC (w : World) (n : Int) (u : Value) (L : List ByteArray) (W : World) : Prop where
  s : W.heap[w.heap.size]? = some (.cells #[.int .i64 n, u] 53 (0, 0))
  r : W.heap[w.heap.size + 1]? = some (.cells #[.int .i64 0, .slice none 0 0] 53 (0, 0))
  b : Below w.heap.size w W
  l : StrRow W w.heap.size u L
theorem StpC.below {w : World} {n : Int} {u : Value} {L : List ByteArray} {A B : World} (h : StpC w n u L A) (hE : Below A.heap.size A B) : StpC w n u L B := by
  have q : ∀ (b : Nat) (o : Obj), A.heap[b]? = some o → B.heap[b]? = some o := fun b o ho => below_blk hE ho (Array.getElem?_eq_some_iff.1 ho).1
  exact ⟨q _ _ h.s, q _ _ h.r, h.b.trans (hE.mono h.b.size), h.l.below (hE.mono h.b.size)⟩
theorem StpC.els {w : World} {n : Int} {u : Value} {L : List ByteArray} {A B : World} (h : StpC w n u L A) {g : Nat} (hE : Els g A B) (hg : w.heap.size + 1 < g) : StpC w n u L B :=
  ⟨els_blk hE (by omega) h.s, els_blk hE (by omega) h.r, h.b.trans (hE.below (by omega) h.b.size), h.l.below (hE.below (by omega) h.b.size)⟩
theorem StpC.start (w : World) (n : Int) (u : Value) (L : List ByteArray) (h : StrRow w w.heap.size u L) : StpC w n u L ((w.alloc (.cells #[.int .i64 n, u] 53)).alloc (.cells #[.int .i64 0, .slice none 0 0] 53)) := by
  have x0 := heap_alloc_new w (.cells #[.int .i64 n, u] 53)
  have x1 := heap_alloc_new (w.alloc (.cells #[.int .i64 n, u] 53)) (.cells #[.int .i64 0, .slice none 0 0] 53)
  have y0 := (Below.heap_alloc _ (.cells #[.int .i64 0, .slice none 0 0] 53) _ (by simp)).trans x0
  rw [World.size_alloc] at x1
  have hb := ((Below.refl w.heap.size w).alloc (Nat.le_refl _) (.cells #[.int .i64 n, u] 53)).alloc (by simp) (.cells #[.int .i64 0, .slice none 0 0] 53)
  exact ⟨y0, x1, hb, h.below hb⟩

set_option maxHeartbeats 1000000 in
theorem rstep_form (v : Value) (l : List Ins) (n : Int) (hn : i64 n) (u : Value) (L : List ByteArray) (w : World) (hl : InsRow w w.heap.size v l) (hL : StrRow w w.heap.size u L) (h : validB l = false ∨ n < 0 ∨ (l.length : Int) < n ∨ L.length ≠ 32) :
    Calls Try.prog 47 #[v, .agg #[.int .i64 n, u]] w (StateBad w 1) := by
  have hc0 := StpC.start w n u L hL
  have kv := codeValidP_at v l _ ((hl.below hc0.b).mono hc0.b.size) _ rfl
  obtain ⟨ao, cap, rfl⟩ := hl.len
  obtain ⟨au, cu, rfl⟩ := hL.len
  obtain ⟨m, hm⟩ : ∃ m, L.length = m := ⟨_, rfl⟩
  have hml := hL.2.1
  have hll := hl.2.1
  obtain ⟨z, hz⟩ : ∃ z, l.length = z := ⟨_, rfl⟩
  rw [hm] at hc0 hml h kv ⊢
  rw [hz] at kv h hll ⊢
  have HC0 := Lib.hid hc0
  unfold i64 at hn
  obtain ⟨bv, hbv⟩ : ∃ bv, validB l = bv := ⟨_, rfl⟩
  rw [hbv] at kv h
  clear hm hL hl hc0 hbv hz
  have fin : ∀ w1, Below ((w.alloc (.cells #[.int .i64 n, .slice au m cu] 53)).alloc (.cells #[.int .i64 0, .slice none 0 0] 53)).heap.size ((w.alloc (.cells #[.int .i64 n, .slice au m cu] 53)).alloc (.cells #[.int .i64 0, .slice none 0 0] 53)) w1 → StpC w n (.slice au m cu) L w1 := fun w1 hb => HC0.out.below hb
  rcases (by cases bv <;> simp_all <;> omega : bv = false ∨ (bv = true ∧ n < 0) ∨ (bv = true ∧ 0 ≤ n ∧ (z : Int) < n) ∨ (bv = true ∧ 0 ≤ n ∧ n ≤ (z : Int) ∧ m ≠ 32)) with rfl | ⟨rfl, h1⟩ | ⟨rfl, h1, h2⟩ | ⟨rfl, h1, h2, h3⟩
  case' inr.inr.inr => have hne : ((m : Int) != 32) = true := by rw [bne_iff_ne]; omega
  all_goals
    clear h
    go_enter Try.func47, Try.ntmps47
    go_wp2_with fail
    refine kv.mono ?_
    rintro e w1 ⟨rfl, hb1⟩
    have hc1 := fin w1 hb1
    have c0 := (block_cells hc1.s).1 0
    have c1 := (block_cells hc1.s).1 1
    have d0 := (block_cells hc1.r).1 0
    have d1 := (block_cells hc1.r).1 1
    have f0 := (block_cells hc1.r).2 0
    have f1 := (block_cells hc1.r).2 1
    simp only [List.getElem?_toArray, List.getElem?_cons_zero, List.getElem?_cons_succ] at c0 c1 d0 d1
    have hr := hc1.r
    have HB := Lib.hid hc1.b
    clear kv fin hb1 hc1
    go_wp2
    obtain ⟨z0, z1, z3⟩ := zero_cells hr HB.out (by omega)
    refine bodyPost_ret (v := .tuple #[.agg #[.int .i64 0, .slice none 0 0], .int .i64 1]) (by simp [results, Try.results47, go_sem, z0, z1]) rfl ?_
    exact ⟨rfl, z3⟩

/-- What holds at the head of Step's loop. -/
def StpL (w : World) (n : Int) (u : Value) (L : List ByteArray) (l : List Ins) (pv sv : Value) (B g k : Nat) (W : World) : Prop :=
  StpC w n u L W ∧ (∀ s ∈ L.take k, isTree s = true) ∧ ∃ ps, MachP W B g l ⟨n.toNat, regsK L k⟩ pv sv ps

set_option maxRecDepth 20000 in
set_option maxHeartbeats 2000000 in
theorem rstep_any (v : Value) (l : List Ins) (hv : validB l = true) (n : Int) (hn0 : 0 ≤ n) (hn1 : n ≤ (l.length : Int)) (u : Value) (L : List ByteArray) (hL32 : L.length = 32) (w : World) (hl : InsRow w w.heap.size v l) (hL : StrRow w w.heap.size u L) :
    Calls Try.prog 47 #[v, .agg #[.int .i64 n, u]] w (fun e w' =>
      if L.all isTree = false then StateBad w 1 e w' else if n = (l.length : Int) then StateBad w 6 e w' else match stepP l ⟨n.toNat, L.map toTr⟩ with
      | none => StateBad w 3 e w'
      | some s' => StateOk w s' e w') := by
  obtain ⟨R, hR⟩ : ∃ R : Ending → World → Prop, R = (fun e w' =>
      if L.all isTree = false then StateBad w 1 e w' else if n = (l.length : Int) then StateBad w 6 e w' else match stepP l ⟨n.toNat, L.map toTr⟩ with
      | none => StateBad w 3 e w'
      | some s' => StateOk w s' e w') := ⟨_, rfl⟩
  rw [← hR]
  have HR := Lib.hid hR
  clear hR
  have hc0 := StpC.start w n u L hL
  have hl0 := (hl.below hc0.b).mono hc0.b.size
  have kv := codeValidP_at v l _ hl0 _ hv
  have hn4 := validB_len hv
  have HV := Lib.hid (validB_all hv)
  have kn := fun w' (h : InsRow w' w'.heap.size v l) => newMachine_any v l .nil (.pointer none) w' h hn4 rfl
  have HL0 := Lib.hid hl0
  obtain ⟨ao, cap, rfl⟩ := hl.len
  obtain ⟨au, cu, rfl⟩ := hL.len
  rw [hL32] at hc0 kv HL0 ⊢
  have H32 := Lib.hid hL32
  have HC0 := Lib.hid hc0
  clear hL hl hc0 hv hl0 hL32
  obtain ⟨z, hz⟩ : ∃ z, l.length = z := ⟨_, rfl⟩
  rw [hz] at kv hn1 hn4 kn HL0 ⊢
  have HZ := Lib.hid hz
  clear hz
  go_enter Try.func47, Try.ntmps47
  go_wp2_with fail
  refine kv.mono ?_
  rintro e w1 ⟨rfl, hb1⟩
  have hc1 := HC0.out.below hb1
  have c0 := (block_cells hc1.s).1 0
  have c1 := (block_cells hc1.s).1 1
  simp only [List.getElem?_toArray, List.getElem?_cons_zero, List.getElem?_cons_succ] at c0 c1
  have kn1 := kn w1 ((HL0.out.below hb1).mono hb1.size)
  have HC1 := Lib.hid hc1
  clear kv hb1 hc1 kn
  go_wp2_with fail
  refine kn1.mono ?_
  rintro e w2 ⟨g, sv, ps, rfl, hm, hb2⟩
  have hc2 := HC1.out.below hb2
  have c0 := (block_cells hc2.s).1 0
  have c1 := (block_cells hc2.s).1 1
  have m34 := (hm.cells rfl).2.2.1
  have mf34 := (hm.cells rfl).2.2.2.2 34
  simp only [List.getElem?_toArray, List.getElem?_cons_zero, List.getElem?_cons_succ] at c0 c1
  have hglt := hm.lt
  have hbg : w.heap.size + 1 < g := by
    have h1 := hm.le
    have h2 := (Array.getElem?_eq_some_iff.1 HC1.out.r).1
    omega
  have hm2 := hm.setPos rfl n.toNat
  rw [show ((n.toNat : Nat) : Int) = n by omega] at hm2
  have hstart : StpL w n (.slice au 32 cu) L l (.slice ao z cap) sv w1.heap.size g 0 (w2.setCell ⟨g, 34, none⟩ (.int .i64 n)) :=
    ⟨hc2.els ((Els.refl g w2).set 34 _) hbg, by simp, _, by rw [regsK_zero]; exact hm2⟩
  have HS := Lib.hid hstart
  clear hm hb2 hc2 kn1 hm2 hstart
  go_wp2
  go_loopg [43] 32 (fun gg i wr => ∃ k : Nat, k ≤ 32 ∧ gg = 32 - k ∧ i = .int .i64 k ∧ Hid (StpL w n (.slice au 32 cu) L l (.slice ao z cap) sv w1.heap.size g k wr))
  case atStart => exact ⟨0, by omega, rfl, rfl, HS.out⟩
  case round =>
    obtain ⟨k, hk, hgg, rfl, hst⟩ := hrel
    have HGG := Lib.hid hgg
    have hlen := HZ.out
    obtain ⟨hc, hall, psk, hmk⟩ := hst.out
    have HALL := Lib.hid hall
    have HMK := Lib.hid hmk
    have HC := Lib.hid hc
    clear hgg hall hlen HS
    by_cases hlt : k < 32
    · obtain ⟨s, hs⟩ : ∃ s, L[k]? = some s := ⟨_, List.getElem?_eq_getElem (by rw [H32.out]; exact hlt)⟩
      have hlrow := hc.l
      obtain ⟨rg, off, rfl, hrg, hcell⟩ := hlrow.get hs
      have hsz := hlrow.size hs
      have kp := fun w => parse_tr s hsz w
      have HSS := Lib.hid hs
      have hi0 : (0 : Int) ≤ (k : Int) := Int.natCast_nonneg _
      have hi1 : (k : Int) < 32 := by omega
      clear hs hlrow hmk hc
      cases ht : isTree s with
      | true =>
        rw [ht] at kp
        have HT := Lib.hid ht
        clear ht
        go_wp2_with fail
        refine (kp _).mono ?_
        rintro e w3 ⟨p, rfl, hb3, hn⟩
        have hm3 := HMK.out.kept hb3
        obtain ⟨_, _, _, hrk, hfk⟩ := hm3.cells (regsK_length L H32.out k (by omega))
        obtain ⟨q, cq, _⟩ := hrk k .nil (regsK_get L H32.out k hlt)
        have fq := hfk (2 + k)
        have hg3 := hm3.lt
        have hnew : Hid (StpL w n (.slice (some ⟨rg, off, none⟩) 32 cu) L l (.slice ao z cap) sv w1.heap.size g (k + 1) (w3.setCell ⟨g, 2 + k, none⟩ (.pointer p))) := by
          refine ⟨(HC.out.below hb3).els ((Els.refl g w3).set _ _) hbg, ?_, ?_⟩
          · intro y hy
            rw [take_snoc' _ _ _ HSS.out] at hy
            rcases List.mem_append.1 hy with h | h
            · exact HALL.out y h
            · simp at h; subst h; exact HT.out
          · have := hm3.setReg k (by rw [regsK_length L H32.out k (by omega)]; exact hlt) hn
            exact ⟨_, by rw [← regsK_succ L k hlt HSS.out]; exact this⟩
        clear hm3 hrk hfk hn hb3 kp
        go_wp2
        go_roundg (32 - (k + 1))
        case measure => rw [HGG.out]; omega
        case rel => exact ⟨k + 1, by omega, rfl, by go_num, hnew⟩
      | false =>
        rw [ht] at kp
        have hf : Hid (L.all isTree = false) := by
          show L.all isTree = false
          rw [Bool.eq_false_iff]; intro h
          have := List.all_eq_true.1 h s (List.mem_of_getElem? HSS.out)
          rw [ht] at this; cases this
        clear ht
        go_wp2_with fail
        refine (kp _).mono ?_
        rintro e w3 ⟨p, rfl, hb3, hn⟩
        have hc3 := HC.out.below hb3
        have d0 := (block_cells hc3.r).1 0
        have d1 := (block_cells hc3.r).1 1
        have f0 := (block_cells hc3.r).2 0
        have f1 := (block_cells hc3.r).2 1
        simp only [List.getElem?_toArray, List.getElem?_cons_zero, List.getElem?_cons_succ] at d0 d1
        have hr := hc3.r
        have HB := Lib.hid hc3.b
        clear kp hn hb3 hc3
        go_wp2
        obtain ⟨z0, z1, z3⟩ := zero_cells hr HB.out (by omega)
        refine bodyPost_ret (v := .tuple #[.agg #[.int .i64 0, .slice none 0 0], .int .i64 1]) (by simp [results, Try.results47, go_sem, z0, z1]) rfl ?_
        rw [HR.out]
        simp only
        rw [if_pos hf.out]
        exact ⟨rfl, z3⟩
    · have hk32 : k = 32 := by omega
      subst hk32
      have hall : L.all isTree = true := List.all_eq_true.2 (by have := HALL.out; rwa [List.take_of_length_le (by rw [H32.out]; exact Nat.le_refl _)] at this)
      have HA := Lib.hid hall
      have hgood : Good l.length ⟨n.toNat, L.map toTr⟩ := by
        refine ⟨by have := HZ.out; show n.toNat ≤ _; omega, by simp [H32.out], fun t ht => ?_⟩
        obtain ⟨y, _, rfl⟩ := List.mem_map.1 ht
        exact toTr_size y
      have hm' := HMK.out
      rw [regsK_all L H32.out] at hm'
      have HG := Lib.hid hgood
      have HM := Lib.hid hm'
      clear hall hgood hmk hc hm'
      obtain ⟨be, hbe⟩ : ∃ be, (((n.toNat : Nat) : Int) == (l.length : Int)) = be := ⟨_, rfl⟩
      have ke := ended_at be wr _ g l ⟨n.toNat, L.map toTr⟩ _ sv psk HM.out HG.out hbe
      have HBE := Lib.hid hbe
      clear hbe
      cases be with
      | true =>
        have hR : Hid (∀ e w', StateBad w 6 e w' → R e w') := by
          intro e w' h
          have hn : n = (l.length : Int) := by have := eq_of_beq HBE.out; omega
          rw [HR.out]
          simp only
          rw [if_neg (by rw [HA.out]; simp), if_pos hn]
          exact h
        go_wp2_with fail
        refine ke.mono ?_
        rintro e w3 ⟨rfl, hb3⟩
        have hc3 := HC.out.below hb3
        have d0 := (block_cells hc3.r).1 0
        have d1 := (block_cells hc3.r).1 1
        have f0 := (block_cells hc3.r).2 0
        have f1 := (block_cells hc3.r).2 1
        simp only [List.getElem?_toArray, List.getElem?_cons_zero, List.getElem?_cons_succ] at d0 d1
        have hr := hc3.r
        have HB := Lib.hid hc3.b
        clear ke hb3 hc3
        go_wp2
        obtain ⟨z0, z1, z3⟩ := zero_cells hr HB.out (by omega)
        refine bodyPost_ret (v := .tuple #[.agg #[.int .i64 0, .slice none 0 0], .int .i64 6]) (by simp [results, Try.results47, go_sem, z0, z1]) rfl ?_
        exact hR.out _ _ ⟨rfl, z3⟩
      | false =>
        have hne : n.toNat ≠ l.length := by
          intro h
          have h1 := HBE.out
          rw [h] at h1
          simp at h1
        have HNE := Lib.hid hne
        have hlt2 : n.toNat < l.length := by have := HZ.out; omega
        have HLT := Lib.hid hlt2
        have hn4' : l.length ≤ 4000 := by have := HZ.out; omega
        have H4 := Lib.hid hn4'
        clear hne hlt2 hn4'
        go_wp2_with fail
        refine ke.mono ?_
        rintro e w3 ⟨rfl, hb3⟩
        have hm3 := HM.out.kept hb3
        cases hs : stepP l ⟨n.toNat, L.map toTr⟩ with
        | none =>
          have ks := step_at_none w3 _ g _ sv psk hm3 HG.out HV.out HLT.out H4.out hs
          have hR : Hid (∀ e w', StateBad w 3 e w' → R e w') := by
            intro e w' h
            rw [HR.out]
            simp only
            rw [if_neg (by rw [HA.out]; simp), if_neg (by have := HNE.out; omega), hs]
            exact h
          have hc3 := Lib.hid (HC.out.below hb3)
          clear ke hb3 hm3 hs
          go_wp2_with fail
          refine ks.mono ?_
          rintro e w4 ⟨rfl, hE⟩
          have hc4 := hc3.out.els hE.out.2 hbg
          have d0 := (block_cells hc4.r).1 0
          have d1 := (block_cells hc4.r).1 1
          have f0 := (block_cells hc4.r).2 0
          have f1 := (block_cells hc4.r).2 1
          simp only [List.getElem?_toArray, List.getElem?_cons_zero, List.getElem?_cons_succ] at d0 d1
          have hr := hc4.r
          have HB := Lib.hid hc4.b
          clear ks hE hc4
          go_wp2
          obtain ⟨z0, z1, z3⟩ := zero_cells hr HB.out (by omega)
          refine bodyPost_ret (v := .tuple #[.agg #[.int .i64 0, .slice none 0 0], .int .i64 3]) (by simp [results, Try.results47, go_sem, z0, z1]) rfl ?_
          exact hR.out _ _ ⟨rfl, z3⟩
        | some s' =>
          have ks := step_at_some w3 _ g _ sv psk hm3 HG.out HV.out HLT.out H4.out hs
          have HG' := Lib.hid (HG.out.step HV.out hs)
          have hR : Hid (∀ e w', StateOk w s' e w' → R e w') := by
            intro e w' h
            rw [HR.out]
            simp only
            rw [if_neg (by rw [HA.out]; simp), if_neg (by have := HNE.out; omega), hs]
            exact h
          have hc3 := Lib.hid (HC.out.below hb3)
          clear ke hb3 hm3 hs
          go_wp2_with fail
          refine ks.mono ?_
          rintro e w4 ⟨rfl, hE⟩
          obtain ⟨⟨ps', hm'⟩, hels⟩ := hE.out
          have hc4 := Lib.hid (hc3.out.els hels hbg)
          have kst := state_any _ _ _ _ _ _ _ _ hm' HG'.out
          clear ks hE hm' hels
          go_wp2_with fail
          refine kst.mono ?_
          rintro e w5 ⟨vs, rfl, hrow, k5⟩
          have hc5 := hc4.out.below k5
          obtain ⟨LL, hLL⟩ : ∃ LL, s'.regs.map TS = LL := ⟨_, rfl⟩
          rw [hLL] at hrow
          have HL := Lib.hid hLL
          clear hLL
          obtain ⟨a5, cp5, rfl⟩ := hrow.len
          have d0 := (block_cells hc5.r).1 0
          have d1 := (block_cells hc5.r).1 1
          have f0 := (block_cells hc5.r).2 0
          have f1 := (block_cells hc5.r).2 1
          simp only [List.getElem?_toArray, List.getElem?_cons_zero, List.getElem?_cons_succ] at d0 d1
          have hr := hc5.r
          have HB := Lib.hid hc5.b
          have HROW := Lib.hid hrow
          clear kst k5 hc5 hrow
          go_wp2
          obtain ⟨z0, z1, z2, z3⟩ := state_cells (u := .pointer none) (x := .pointer none) rfl hr HROW.out HB.out (by omega) (s'.pos : Int) ⟨_, _, _, rfl⟩
          refine bodyPost_ret (v := .tuple #[.agg #[.int .i64 (s'.pos : Nat), .slice a5 LL.length cp5], .int .i64 0]) (by simp [results, Try.results47, go_sem, z0, z1]) rfl ?_
          exact hR.out _ _ ⟨_, rfl, by rw [HL.out]; exact z2, z3⟩

end Go.Proofs.Ytieocihlkpipmaa

namespace Go.Proofs.Ytieocihlkpipmaa
open Go.RowKit

theorem box2 {W : World} {b T : Nat} {x y : Value} (h : W.heap[b]? = some (.cells #[x, y] T (0, 0))) : W.cell? ⟨b, 0, none⟩ = some x ∧ W.cell? ⟨b, 1, none⟩ = some y := ⟨(block_cells h).1 0, (block_cells h).1 1⟩
theorem box2_keep {W : World} {b T : Nat} {x y : Value} (h : W.heap[b]? = some (.cells #[x, y] T (0, 0))) : ∀ w', Below W.heap.size W w' → w'.cell? ⟨b, 0, none⟩ = some x ∧ w'.cell? ⟨b, 1, none⟩ = some y := fun _ hb => box2 (blk_lift hb h)
theorem blk_lift_drew {A B : World} {b : Nat} {o : Obj} (hb : Below A.drew.heap.size A.drew B) (h : A.heap[b]? = some o) : B.heap[b]? = some o := blk_lift (A := A.drew) hb h
theorem box4 {W : World} {b T : Nat} {x y : Value} (h : W.heap[b]? = some (.cells #[x, y] T (0, 0))) : W.cell? ⟨b, 0, none⟩ = some x ∧ W.cell? ⟨b, 1, none⟩ = some y ∧ W.frozen? ⟨b, 0, none⟩ = false ∧ W.frozen? ⟨b, 1, none⟩ = false := ⟨(block_cells h).1 0, (block_cells h).1 1, (block_cells h).2 0, (block_cells h).2 1⟩
/-- A new box of two cells. -/
theorem box2_new (W : World) (T : Nat) (x y : Value) : (W.alloc (.cells #[x, y] T)).heap[W.heap.size]? = some (.cells #[x, y] T (0, 0)) := heap_alloc_new W _
theorem alloc_below (W : World) (o : Obj) : Below W.heap.size W (W.alloc o) := (Below.refl _ _).alloc (Nat.le_refl _) _

theorem not_cell {A : World} {b j T : Nat} {x y v : Value} (h : A.heap[b]? = some (.cells #[x, y] T (0, 0))) (hj : 2 ≤ j) : A.cell? ⟨b, j, none⟩ ≠ some v := by
  rw [(block_cells h).1]
  match j, hj with
  | j + 2, _ => simp
theorem InsRow.els2 {A B : World} {b : Nat} {v : Value} {l : List Ins} (h : InsRow A A.heap.size v l) (hE : Els b A B) (hb : A.heap[b]? = none ∨ ∃ x y T, A.heap[b]? = some (.cells #[x, y] T (0, 0))) : InsRow B B.heap.size v l := by
  obtain ⟨h1, h2, h3⟩ := h
  refine ⟨h1, h2, ?_⟩
  rcases h3 with h3 | ⟨g, off, cap, hv, hg, hc⟩
  · exact .inl h3
  · refine .inr ⟨g, off, cap, hv, by have := hE.size; omega, fun j x hj k u hk => ?_⟩
    have hne : g ≠ b := by
      rintro rfl
      rcases hb with hb | ⟨x1, y1, T, hb⟩
      · rw [Array.getElem?_eq_none_iff] at hb; omega
      · exact not_cell hb (by omega) (hc j x hj 4 _ rfl)
    exact (World.cell?_of_block (hE.block g hg hne)).trans (hc j x hj k u hk)
theorem StrRow.els2 {A B : World} {b : Nat} {v : Value} {l : List ByteArray} (h : StrRow A A.heap.size v l) (hE : Els b A B) (hb : A.heap[b]? = none ∨ ∃ x y T, A.heap[b]? = some (.cells #[x, y] T (0, 0)) ∧ (∀ s, x ≠ .string s) ∧ ∀ s, y ≠ .string s) : StrRow B B.heap.size v l := by
  obtain ⟨h1, h2, h3⟩ := h
  refine ⟨h1, h2, ?_⟩
  rcases h3 with h3 | ⟨g, off, cap, hv, hg, hc⟩
  · exact .inl h3
  · refine .inr ⟨g, off, cap, hv, by have := hE.size; omega, fun j s hj => ?_⟩
    have hne : g ≠ b := by
      rintro rfl
      have hcj := hc j s hj
      rcases hb with hb | ⟨x1, y1, T, hb, hx, hy⟩
      · rw [Array.getElem?_eq_none_iff] at hb; omega
      · rw [(block_cells hb).1] at hcj
        generalize off + j = i at hcj
        match i with
        | 0 => simp at hcj; exact hx s hcj
        | 1 => simp at hcj; exact hy s hcj
        | i + 2 => simp at hcj
    exact (World.cell?_of_block (hE.block g hg hne)).trans (hc j s hj)
/-- A box of two cells behind a region: newly made there, or made before and written. -/
structure BoxFin (W0 A B : World) (b T : Nat) (x y : Value) : Prop where
  blk : B.heap[b]? = some (.cells #[x, y] T (0, 0))
  els : Els b A B
  was : A.heap[b]? = none ∨ ∃ x y T, A.heap[b]? = some (.cells #[x, y] T (0, 0)) ∧ (∀ s, x ≠ .string s) ∧ ∀ s, y ≠ .string s
  le : W0.heap.size ≤ b
theorem BoxFin.alloc {W0 A : World} (T : Nat) (x y : Value) (h : W0.heap.size ≤ A.heap.size) : BoxFin W0 A (A.alloc (.cells #[x, y] T)) A.heap.size T x y :=
  ⟨heap_alloc_new A _, ⟨rfl, rfl, rfl, by simp, fun k hk _ => Below.heap_alloc _ _ _ hk⟩, .inl (by simp), h⟩
theorem BoxFin.set {W0 A : World} {b T : Nat} {x0 y0 : Value} (x y : Value) (h : A.heap[b]? = some (.cells #[x0, y0] T (0, 0))) (hx : ∀ s, x0 ≠ .string s) (hy : ∀ s, y0 ≠ .string s) (hb : W0.heap.size ≤ b) : BoxFin W0 A ((A.setCell ⟨b, 0, none⟩ x).setCell ⟨b, 1, none⟩ y) b T x y := by
  have h1 := set_blk h 0 x
  have h2 := set_blk h1 1 y
  simp only [List.setIfInBounds_toArray, List.set_cons_zero, List.set_cons_succ] at h2
  exact ⟨h2, ((Els.refl b A).set 0 x).set 1 y, .inr ⟨_, _, _, h, hx, hy⟩, hb⟩
theorem BoxFin.ins {W0 A B : World} {b T : Nat} {x y : Value} (h : BoxFin W0 A B b T x y) {v : Value} {l : List Ins} (hr : InsRow A A.heap.size v l) : InsRow B B.heap.size v l := hr.els2 h.els (h.was.elim .inl fun ⟨x, y, T, e, _⟩ => .inr ⟨x, y, T, e⟩)
theorem BoxFin.str {W0 A B : World} {b T : Nat} {x y : Value} (h : BoxFin W0 A B b T x y) {v : Value} {l : List ByteArray} (hr : StrRow A A.heap.size v l) : StrRow B B.heap.size v l := hr.els2 h.els h.was
theorem BoxFin.below {W0 A B : World} {b T : Nat} {x y : Value} (h : BoxFin W0 A B b T x y) (hb : Below W0.heap.size W0 A) : Below W0.heap.size W0 B := hb.trans (h.els.below h.le hb.size)

theorem none0_at (w : World) : Calls Try.prog 39 #[.agg #[.int .i64 0, .slice none 0 0]] w fun e w' => e = .returned (.bool true) ∧ Below w.heap.size w w' :=
  none_any 0 _ [] true (by rfl) w ⟨by simp, by simp, .inl ⟨rfl, .inl rfl⟩⟩
theorem stateOk_open {w : World} {s : St} (h32 : s.regs.length = 32) {e : Ending} {w' : World} (h : StateOk w s e w') : ∃ a c, e = .returned (.tuple #[.agg #[.int .i64 s.pos, .slice a 32 c], .int .i64 0]) ∧ StrRow w' w'.heap.size (.slice a 32 c) (s.regs.map TS) ∧ Below w.heap.size w w' := by
  obtain ⟨v, h1, h2, h3⟩ := h
  obtain ⟨a, c, rfl⟩ := h2.len
  rw [List.length_map, h32] at h1 h2
  exact ⟨a, c, h1, h2, h3⟩
theorem first_at {w : World} {v : Value} {l : List Ins} {t : Tr} {S : ByteArray} (ht : t.size ≤ 2000000) (hS : TS t = S) (hv : validB l = true) (hl : InsRow w w.heap.size v l) :
    Calls Try.prog 55 #[v, .string S] w fun e w' => ∃ a c, e = .returned (.tuple #[.agg #[.int .i64 0, .slice a 32 c], .int .i64 0]) ∧ StrRow w' w'.heap.size (.slice a 32 c) ((startS t).regs.map TS) ∧ Below w.heap.size w w' := by
  rw [← hS]; exact (first_ok v l t ht w hl hv).mono fun e w' h => stateOk_open rfl h
theorem step_bad_at {w : World} {v : Value} {l : List Ins} {n : Int} {u : Value} {L : List ByteArray} (hn : i64 n) (h : validB l = false ∨ fitsB n l.length L = false) (hl : InsRow w w.heap.size v l) (hL : StrRow w w.heap.size u L) : Calls Try.prog 47 #[v, .agg #[.int .i64 n, u]] w (StateBad w 1) := by
  by_cases h1 : validB l = false ∨ n < 0 ∨ (l.length : Int) < n ∨ L.length ≠ 32
  · exact rstep_form v l n hn u L w hl hL h1
  · have hv : validB l = true := by cases hq : validB l <;> simp_all
    have hf : fitsB n l.length L = false := by rcases h with h | h; rw [hv] at h; cases h; exact h
    have h0 : 0 ≤ n := by omega
    have h2 : n ≤ l.length := by omega
    have h3 : L.length = 32 := by omega
    have hall : L.all isTree = false := by
      unfold fitsB at hf
      simp only [h0, h2, h3, decide_true, Bool.true_and] at hf
      exact hf
    refine (rstep_any v l hv n h0 h2 u L h3 w hl hL).mono ?_
    intro e w' h
    rw [if_pos hall] at h
    exact h
theorem fitsB_iff {n : Int} {len : Nat} {L : List ByteArray} (h : fitsB n len L = true) : 0 ≤ n ∧ n ≤ len ∧ L.length = 32 ∧ L.all isTree = true := by
  unfold fitsB at h
  simp only [Bool.and_eq_true, decide_eq_true_eq] at h
  exact ⟨h.1.1.1, h.1.1.2, h.1.2, h.2⟩
theorem step_end_at {w : World} {v : Value} {l : List Ins} {n : Int} {u : Value} {L : List ByteArray} (hv : validB l = true) (hf : fitsB n l.length L = true) (he : n = l.length) (hl : InsRow w w.heap.size v l) (hL : StrRow w w.heap.size u L) : Calls Try.prog 47 #[v, .agg #[.int .i64 n, u]] w (StateBad w 6) := by
  obtain ⟨h0, h1, h2, h3⟩ := fitsB_iff hf
  refine (rstep_any v l hv n h0 h1 u L h2 w hl hL).mono ?_
  intro e w' h
  rw [if_neg (by rw [h3]; simp), if_pos he] at h
  exact h
theorem step_big_at {w : World} {v : Value} {l : List Ins} {n : Int} {u : Value} {L : List ByteArray} (hv : validB l = true) (hf : fitsB n l.length L = true) (he : n ≠ l.length) (hs : stepP l ⟨n.toNat, L.map toTr⟩ = none) (hl : InsRow w w.heap.size v l) (hL : StrRow w w.heap.size u L) : Calls Try.prog 47 #[v, .agg #[.int .i64 n, u]] w (StateBad w 3) := by
  obtain ⟨h0, h1, h2, h3⟩ := fitsB_iff hf
  refine (rstep_any v l hv n h0 h1 u L h2 w hl hL).mono ?_
  intro e w' h
  rw [if_neg (by rw [h3]; simp), if_neg he, hs] at h
  exact h
theorem step_ok_at {w : World} {v : Value} {l : List Ins} {n : Int} {u : Value} {L : List ByteArray} (hv : validB l = true) (hf : fitsB n l.length L = true) (he : n ≠ l.length) {s' : St} (h32 : s'.regs.length = 32) (hs : stepP l ⟨n.toNat, L.map toTr⟩ = some s') (hl : InsRow w w.heap.size v l) (hL : StrRow w w.heap.size u L) :
    Calls Try.prog 47 #[v, .agg #[.int .i64 n, u]] w fun e w' => ∃ a c, e = .returned (.tuple #[.agg #[.int .i64 s'.pos, .slice a 32 c], .int .i64 0]) ∧ StrRow w' w'.heap.size (.slice a 32 c) (s'.regs.map TS) ∧ Below w.heap.size w w' := by
  obtain ⟨h0, h1, h2, h3⟩ := fitsB_iff hf
  refine (rstep_any v l hv n h0 h1 u L h2 w hl hL).mono ?_
  intro e w' h
  rw [if_neg (by rw [h3]; simp), if_neg he, hs] at h
  exact stateOk_open h32 h
theorem sameState_at {w : World} {n m : Int} {u v : Value} {l1 l2 : List ByteArray} (hnm : n = m) (hll : l1 = l2) (h1 : StrRow w w.heap.size u l1) (h2 : StrRow w w.heap.size v l2) :
    Calls Try.prog 41 #[.agg #[.int .i64 n, u], .agg #[.int .i64 m, v]] w fun e w' => e = .returned (.bool true) ∧ Below w.heap.size w w' := by
  subst hnm hll
  refine (sameState_any n n u v _ _ w h1 h2).mono ?_
  rintro e w' ⟨rfl, h⟩
  exact ⟨by simp [sameS, sameB_self], h⟩
theorem fits3_at {w : World} {v : Value} {l : List Ins} {n : Int} {u : Value} {L : List ByteArray} (b : Bool) (hb : fitsB n l.length L = b) (hn : i64 n) (hl : InsRow w w.heap.size v l) (hL : StrRow w w.heap.size u L) :
    Calls Try.prog 46 #[v, .agg #[.int .i64 n, u]] w fun e w' => e = .returned (.bool b) ∧ Below w.heap.size w w' := by
  rw [← hb]; exact fits_any v l n u L w hl hn hL
theorem BoxFin.blk' {W0 A B : World} {b T : Nat} {x y : Value} (h : BoxFin W0 A B b T x y) {k : Nat} {o : Obj} (hk : k < W0.heap.size) (ho : A.heap[k]? = some o) : B.heap[k]? = some o := (h.els.block k (Array.getElem?_eq_some_iff.1 ho).1 (by have := h.le; omega)).trans ho
@[elab_as_elim] theorem BoxFin.elimW {W0 A : World} {T : Nat} {x y : Value} {motive : World → Prop} {B : World} {b : Nat} (h : BoxFin W0 A B b T x y) (k : ∀ B, Hid (BoxFin W0 A B b T x y) → motive B) : motive B := k B (Lib.hid h)
@[elab_as_elim] theorem BoxFin.elimB {W0 A : World} {T : Nat} {x y : Value} {motive : Nat → Prop} {B : World} {b : Nat} (h : BoxFin W0 A B b T x y) (k : ∀ b, Hid (BoxFin W0 A B b T x y) → motive b) : motive b := k b (Lib.hid h)
theorem read_hid {w : World} {t : Tr} (ht : t.size ≤ 2000000) : ∀ w', Below w.heap.size w w' → Calls Try.prog 28 #[.string (TS t)] w' fun e w'' => ∃ q, e = .returned (.pointer q) ∧ Hid (NodeP 114 w'' t (.pointer q)) ∧ Below w.heap.size w w'' := fun w' hb =>
  (read_ok t ht w').mono fun e w'' ⟨q, h1, h2, h3⟩ => ⟨q, h1, Lib.hid h2, hb.trans (h3.mono hb.size)⟩
theorem rfirst_hid {w : World} {t : Tr} : ∀ w' q, NodeP 114 w' t (.pointer q) → Below w.heap.size w w' → Calls Try.prog 56 #[.pointer q] w' fun e w'' => ∃ gs, e = .returned (.pointer (some ⟨gs, 0, none⟩)) ∧ Hid (∃ T gr ps, RStP w'' T gs (startS t) (.slice (some ⟨gr, 0, none⟩) 32 32) ps) ∧ Below w.heap.size w w'' := fun w' q hq hb =>
  (rfirst_any t (.pointer q) w' hq).mono fun e w'' ⟨gs, ps, h1, h2, h3⟩ => ⟨gs, h1, Lib.hid ⟨_, _, _, h2⟩, hb.trans (h3.mono hb.size)⟩
theorem rtext_hid {w : World} {n : Nat} {s : St} (z : Int) (hz : (s.pos : Int) = z) (hg : Good n s) : ∀ w' gs, (∃ T gr cp ps, RStP w' T gs s (.slice (some ⟨gr, 0, none⟩) 32 cp) ps) → Below w.heap.size w w' → Calls Try.prog 42 #[.pointer (some ⟨gs, 0, none⟩)] w' fun e w'' => ∃ x, e = .returned (.agg #[.int .i64 z, x]) ∧ Hid (StrRow w'' w''.heap.size x (s.regs.map TS)) ∧ Below w.heap.size w w'' := fun w' gs ⟨T, gr, cp, ps, hs⟩ hb => by
  refine (rtext_any w' T gs gr cp n s ps (by rw [hg.2.1]; exact hs) hg).mono ?_
  rintro e w'' ⟨x, h1, h2, h3⟩
  rw [hz] at h1
  exact ⟨x, h1, Lib.hid h2, hb.trans (h3.mono hb.size)⟩
theorem st_drew {w : World} {gs : Nat} {s : St} (h : ∃ T gr cp ps, RStP w T gs s (.slice (some ⟨gr, 0, none⟩) 32 cp) ps) : ∃ T gr cp ps, RStP w.drew T gs s (.slice (some ⟨gr, 0, none⟩) 32 cp) ps := by
  obtain ⟨T, gr, cp, ps, h⟩ := h
  exact ⟨T, gr, cp, ps, h.kept (Below.refl _ _).drew⟩
theorem sameState_hid {w : World} {n : Int} {u : Value} {L : List ByteArray} (hu : StrRow w w.heap.size u L) : ∀ w' x, StrRow w' w'.heap.size x L → Below w.heap.size w w' → Calls Try.prog 41 #[.agg #[.int .i64 n, u], .agg #[.int .i64 n, x]] w' fun e w'' => e = .returned (.bool true) ∧ Below w.heap.size w w'' := fun w' x hx hb =>
  (sameState_at rfl rfl ((hu.below hb).mono hb.size) hx).mono fun e w'' ⟨h1, h2⟩ => ⟨h1, hb.trans (h2.mono hb.size)⟩
theorem awake_hid (w : World) : ∀ w', Below w.heap.size w w' → Calls Try.prog 25 #[] w' fun e w'' => e = .returned (.bool true) ∧ Below w.heap.size w w'' := awake03_ct w
theorem load_hid {w : World} {v : Value} {l : List Ins} (hl : InsRow w w.heap.size v l) (hv : validB l = true) : ∀ w', Below w.heap.size w w' → Calls Try.prog 26 #[v] w' fun e w'' => ∃ gm tv, e = .returned (.pointer (some ⟨gm, 0, none⟩)) ∧ Hid (RMachP w'' w''.heap.size gm l v tv) ∧ Below w.heap.size w w'' := load_ct hl hv
def RBoth (w : World) (T : Nat) (gm gs : Nat) (l : List Ins) (v tv : Value) (s : St) : Prop := ∃ gr cp ps, T ≤ gr ∧ RStP w T gs s (.slice (some ⟨gr, 0, none⟩) 32 cp) ps ∧ RMachP w T gm l v tv
theorem rread_hid {w : World} {n : Int} {u : Value} {L : List ByteArray} {len : Nat} (hf : fitsB n len L = true) (hu : StrRow w w.heap.size u L) {l : List Ins} {v : Value} : ∀ w' gm tv, RMachP w' w'.heap.size gm l v tv → Below w.heap.size w w' → Calls Try.prog 57 #[.agg #[.int .i64 n, u]] w' fun e w'' => ∃ gs, e = .returned (.pointer (some ⟨gs, 0, none⟩)) ∧ Hid (∃ T, w.heap.size ≤ T ∧ RBoth w'' T gm gs l v tv ⟨n.toNat, L.map toTr⟩) ∧ Below w.heap.size w w'' := fun w' gm tv hm hb => by
  obtain ⟨h0, h1, h2, h3⟩ := fitsB_iff hf
  refine (rread_any n h0 u L h2 h3 w' ((hu.below hb).mono hb.size)).mono ?_
  rintro e w'' ⟨gs, gr, cp, ps, h4, h5, h6, h7⟩
  exact ⟨gs, h4, ⟨_, hb.size, gr, cp, ps, h6, h5, hm.kept h7 (Kept.below h7)⟩, hb.trans (h7.mono hb.size)⟩
theorem fit_good {n : Int} {len : Nat} {L : List ByteArray} (hf : fitsB n len L = true) : Good len ⟨n.toNat, L.map toTr⟩ := by
  obtain ⟨h0, h1, h2, h3⟩ := fitsB_iff hf
  refine ⟨by show n.toNat ≤ len; omega, by simpa using h2, fun t ht => ?_⟩
  obtain ⟨s, hs, rfl⟩ := List.mem_map.1 ht
  obtain ⟨u, rfl, hu⟩ := isTree_get (List.all_eq_true.1 h3 s hs)
  rw [toTr_TS u hu]; exact hu
theorem ended_at3 {w : World} {T gm gs : Nat} {l : List Ins} {v tv : Value} {s : St} (b : Bool) (hb : ((s.pos : Int) == (l.length : Int)) = b) (h : RBoth w T gm gs l v tv s) : Calls Try.prog 58 #[.pointer (some ⟨gm, 0, none⟩), .pointer (some ⟨gs, 0, none⟩)] w fun e w' => e = .returned (.bool b) ∧ Hid (RBoth w' T gm gs l v tv s) ∧ Below w.heap.size w w' := by
  obtain ⟨gr, cp, ps, h1, h2, h3⟩ := h
  refine (rended_any w T gm gs l s v tv _ T ps h3 h2).mono ?_
  rintro e w' ⟨rfl, nq, rfl⟩
  have hq := below_drewN (Below.refl w.heap.size w) nq
  have hq' := below_drewN (Below.refl T w) nq
  exact ⟨by rw [hb], ⟨gr, cp, ps, h1, h2.kept hq, h3.kept hq' (Kept.below hq)⟩, hq⟩
theorem rstepOk_at3 {w : World} {B T gm gs : Nat} {l : List Ins} {v tv : Value} {s s' : St} (h : RBoth w T gm gs l v tv s) (hB : B ≤ T) (hg : Good l.length s) (hv : validB l = true) (he : s.pos ≠ l.length) (hs : stepP l s = some s') : Calls Try.prog 59 #[.pointer (some ⟨gm, 0, none⟩), .pointer (some ⟨gs, 0, none⟩)] w fun e w' => e = .returned (.bool true) ∧ Hid (∃ T gr cp ps, RStP w' T gs s' (.slice (some ⟨gr, 0, none⟩) 32 cp) ps) ∧ Below B w w' := by
  obtain ⟨gr, cp, ps, h1, h2, h3⟩ := h
  have hl4 := validB_len hv
  refine (refstep_some h3 h2 h1 hg (by omega) (validB_all hv) (by have := hg.1; omega) hs).mono ?_
  rintro e w' ⟨h4, h5⟩
  obtain ⟨⟨ps', h6⟩, h7, h8⟩ := h5.out
  exact ⟨h4, ⟨_, _, _, _, h6⟩, h7.mono hB⟩
theorem rstepNo_at3 {w : World} {B T gm gs : Nat} {l : List Ins} {v tv : Value} {s : St} (h : RBoth w T gm gs l v tv s) (hB : B ≤ T) (hg : Good l.length s) (hv : validB l = true) (he : s.pos ≠ l.length) (hs : stepP l s = none) : Calls Try.prog 59 #[.pointer (some ⟨gm, 0, none⟩), .pointer (some ⟨gs, 0, none⟩)] w fun e w' => e = .returned (.bool false) ∧ Below B w w' := by
  obtain ⟨gr, cp, ps, h1, h2, h3⟩ := h
  have hl4 := validB_len hv
  refine (refstep_none h3 h2 h1 hg (by omega) (validB_all hv) (by have := hg.1; omega) hs).mono ?_
  rintro e w' ⟨h4, h5⟩
  exact ⟨h4, h5.out.2.1.mono hB⟩

set_option maxRecDepth 100000 in
set_option maxHeartbeats 8000000 in
theorem law_RunSteps_i {w : World} (v : Value) (l : List Ins) (hl : InsRow w w.heap.size v l) (s : ByteArray) (hs : s.size ≤ 140737488355328) (n : Int) (au : Option Addr) (LL cu : Nat) (L : List ByteArray) (HLL : Hid (L.length = LL)) (hn : i64 n) (hz : L.length ≤ 8796093022208) (hu : StrRow w w.heap.size (.slice au LL cu) L) (hv : validB l = false) :
    Calls Try.prog 15 #[v, .string s, .agg #[.int .i64 n, .slice au LL cu]] w fun e w' => e = .returned (.bool true) ∧ Below w.heap.size w w' := by
    have hl := Lib.hid hl
    have hu := Lib.hid hu
    obtain ⟨W0, hW0⟩ : ∃ W0, w.alloc (.cells #[.int .i64 n, .slice au LL cu] 53) = W0 := ⟨_, rfl⟩
    have hq0 : Below w.heap.size w W0 := by rw [← hW0]; exact alloc_below _ _
    have b5 := Lib.hid (show W0.heap[w.heap.size]? = some (.cells #[.int .i64 n, .slice au LL cu] 53 (0, 0)) by rw [← hW0]; exact box2_new _ _ _ _)
    have hl := Lib.hid ((hl.out.below hq0).mono hq0.size)
    have hu := Lib.hid ((hu.out.below hq0).mono hq0.size)
    have HQ0 := Lib.hid hq0
    have e00 := box2 b5.out
    obtain ⟨e00, e01⟩ := e00
    clear hq0
    go_enter Try.func15, Try.ntmps15
    have kTw : Hid (∀ w', Below W0.heap.size W0 w' → Calls Try.prog 20 #[v] w' fun e w'' => ∃ v', e = .returned v' ∧ Hid (InsRow w'' w''.heap.size v' l) ∧ Hid (Below w'.heap.size w' w'') ∧ Below W0.heap.size W0 w'') := fun w' hb => (twin_any v l w' ((hl.out.below hb).mono hb.size)).mono fun e w'' ⟨v', h1, h2, h3⟩ => ⟨v', h1, h2, h3, hb.trans (h3.mono hb.size)⟩
    have kCo : Hid (∀ w', Below W0.heap.size W0 w' → Calls Try.prog 48 #[.agg #[.int .i64 n, .slice au LL cu]] w' fun e w'' => ∃ ac cc, e = .returned (.agg #[.int .i64 n, .slice ac LL cc]) ∧ Hid (StrRow w'' w''.heap.size (.slice ac LL cc) L) ∧ Hid (Below w'.heap.size w' w'') ∧ Below W0.heap.size W0 w'') := fun w' hb => by
      refine (copied_any n _ L hz w' ((hu.out.below hb).mono hb.size)).mono ?_
      rintro e w'' ⟨a, c, h1, h2, h3⟩
      rw [HLL.out] at h1 h2
      exact ⟨a, c, h1, h2, h3, hb.trans (h3.mono hb.size)⟩
    have KEEP := Lib.hid (box2_keep b5.out)
    go_wp2
    go_region_held3 (fun w' => w'.cell? ⟨w.heap.size, 0, none⟩ = some (.int .i64 n) ∧ w'.cell? ⟨w.heap.size, 1, none⟩ = some (.slice au LL cu))
      (with_reducible (first | exact KEEP.out _ (hzC.alloc hzC.size _) | exact KEEP.out _ (hzC.alloc hzC.size _).drew | exact KEEP.out _ hzC | exact KEEP.out _ hzC.drew | exact KEEP.out _ (hzT.alloc hzT.size _) | exact KEEP.out _ (hzT.alloc hzT.size _).drew | exact KEEP.out _ hzT | exact KEEP.out _ hzT.drew | exact KEEP.out _ (Below.refl _ _) | exact KEEP.out _ (Below.refl _ _).drew | exact KEEP.out _ (alloc_below _ _) | exact KEEP.out _ (alloc_below _ _).drew | (have hzS := hzC; have hzR := hzT; exact KEEP.out _ ((hzS.setCell (by first | exact hzR.size | exact Nat.le_refl _) _).setCell (by first | exact hzR.size | exact Nat.le_refl _) _)) | (have hzS := hzC; have hzR := hzT; exact KEEP.out _ ((hzS.setCell (by first | exact hzR.size | exact Nat.le_refl _) _).setCell (by first | exact hzR.size | exact Nat.le_refl _) _).drew) | fail "keep"))
      ((first
        | ((with_reducible refine (kTw.out _ (by first | exact Below.refl _ _ | exact (Below.refl _ _).drew | exact alloc_below _ _ | exact (alloc_below _ _).drew | exact (Below.refl _ _).drew.alloc (Nat.le_refl _) _)).mono ?_); rintro e wT ⟨v', rfl, hv', hlT, hzT⟩)
        | ((with_reducible refine (kCo.out _ (by first | exact hzT | exact hzT.alloc hzT.size _)).mono ?_); rintro e wC ⟨ac, cc, rfl, hco, hlC, hzC⟩; (first | (have hb8 := blk_lift hlC.out (box2_new wT _ _ _); obtain ⟨k80, k81, k82, k83⟩ := box4 hb8; have hb08 := Lib.hid hb8; clear hb8) | (have hb8 := blk_lift hlC.out (blk_lift_drew hlT.out (box2_new W0 _ _ _)); obtain ⟨k80, k81, k82, k83⟩ := box4 hb8; have hb08 := Lib.hid hb8; clear hb8) | (have hb8 := blk_lift hlC.out (blk_lift hlT.out (box2_new W0 _ _ _)); obtain ⟨k80, k81, k82, k83⟩ := box4 hb8; have hb08 := Lib.hid hb8; clear hb8) | skip))
        | (fail "arm")))
    all_goals (
    (first | (have BF := (BoxFin.set (W0 := W0) (A := wC) (.int .i64 n) (.slice ac LL cc) hb08.out (by intro s h; cases h) (by intro s h; cases h) (by first | exact Nat.le_refl _ | exact hzT.size))) | (have BF := (BoxFin.alloc (W0 := W0) (A := wC) 53 (.int .i64 n) (.slice ac LL cc) hzC.size)))
    refine BoxFin.elimW BF ?_
    clear BF
    intro w8 BF
    refine BoxFin.elimB BF.out ?_
    clear BF
    intro b8 BF
    have b5 := Lib.hid (BF.out.blk' (by rw [← hW0]; simp) (blk_lift hzC b5.out))
    have bf := Lib.hid BF.out.blk
    have hl := Lib.hid (BF.out.ins ((hl.out.below hzC).mono hzC.size))
    have hu := Lib.hid (BF.out.str ((hu.out.below hzC).mono hzC.size))
    have hv' := Lib.hid (BF.out.ins (by first | exact (hv'.out.below hlC.out).mono hlC.out.size | exact (((hv'.out.below (alloc_below _ _)).mono (alloc_below _ _).size).below hlC.out).mono hlC.out.size))
    have hco := Lib.hid (BF.out.str hco.out)
    have ch8 := HQ0.out.trans ((BF.out.below hzC).mono HQ0.out.size)
    clear BF HQ0 hzC hlC hlT hzT kTw kCo KEEP e00 e01
    try clear hb08 k80 k81 k82 k83
    go_wp2_with fail
    refine (first_bad v l _ hs _ hl.out (.inl hv)).mono ?_
    rintro e w9 ⟨rfl, hb9⟩
    have hl := Lib.hid ((hl.out.below hb9).mono hb9.size)
    have hu := Lib.hid ((hu.out.below hb9).mono hb9.size)
    have hv' := Lib.hid ((hv'.out.below hb9).mono hb9.size)
    have hco := Lib.hid ((hco.out.below hb9).mono hb9.size)
    have b5 := Lib.hid (blk_lift hb9 b5.out)
    have bf := Lib.hid (blk_lift hb9 bf.out)
    have ch9 := (ch8).trans (hb9.mono (ch8).size)
    clear ch8
    clear hb9
    have e1 := box2 (blk_lift (alloc_below w9 (.cells #[.int .i64 0, .slice none 0 0] 53)) b5.out)
    obtain ⟨e1a, e1b⟩ := e1
    go_wp2_with fail
    clear e1a e1b
    obtain ⟨w10, hW⟩ : ∃ B, w9.alloc (.cells #[.int .i64 0, .slice none 0 0] 53) = B := ⟨_, rfl⟩
    rw [hW]
    have hbB : Below w9.heap.size w9 w10 := by rw [← hW]; exact alloc_below _ _
    have b9 := Lib.hid (show w10.heap[w9.heap.size]? = some (.cells #[.int .i64 0, .slice none 0 0] 53 (0, 0)) by rw [← hW]; exact box2_new _ _ _ _)
    clear hW
    have hl := Lib.hid ((hl.out.below hbB).mono hbB.size)
    have hu := Lib.hid ((hu.out.below hbB).mono hbB.size)
    have hv' := Lib.hid ((hv'.out.below hbB).mono hbB.size)
    have hco := Lib.hid ((hco.out.below hbB).mono hbB.size)
    have b5 := Lib.hid (blk_lift hbB b5.out)
    have bf := Lib.hid (blk_lift hbB bf.out)
    have ch10 := (ch9).trans (hbB.mono (ch9).size)
    clear ch9
    clear hbB
    refine (step_bad_at hn (.inl hv) hl.out hu.out).mono ?_
    rintro e w11 ⟨rfl, hb11⟩
    have hl := Lib.hid ((hl.out.below hb11).mono hb11.size)
    have hu := Lib.hid ((hu.out.below hb11).mono hb11.size)
    have hv' := Lib.hid ((hv'.out.below hb11).mono hb11.size)
    have hco := Lib.hid ((hco.out.below hb11).mono hb11.size)
    have b5 := Lib.hid (blk_lift hb11 b5.out)
    have bf := Lib.hid (blk_lift hb11 bf.out)
    have b9 := Lib.hid (blk_lift hb11 b9.out)
    have ch11 := (ch10).trans (hb11.mono (ch10).size)
    clear ch10
    clear hb11
    go_wp2_with fail
    obtain ⟨w12, hW⟩ : ∃ B, w11.alloc (.cells #[.int .i64 0, .slice none 0 0] 53) = B := ⟨_, rfl⟩
    rw [hW]
    have hbB : Below w11.heap.size w11 w12 := by rw [← hW]; exact alloc_below _ _
    have b11 := Lib.hid (show w12.heap[w11.heap.size]? = some (.cells #[.int .i64 0, .slice none 0 0] 53 (0, 0)) by rw [← hW]; exact box2_new _ _ _ _)
    clear hW
    have hl := Lib.hid ((hl.out.below hbB).mono hbB.size)
    have hu := Lib.hid ((hu.out.below hbB).mono hbB.size)
    have hv' := Lib.hid ((hv'.out.below hbB).mono hbB.size)
    have hco := Lib.hid ((hco.out.below hbB).mono hbB.size)
    have b5 := Lib.hid (blk_lift hbB b5.out)
    have bf := Lib.hid (blk_lift hbB bf.out)
    have b9 := Lib.hid (blk_lift hbB b9.out)
    have ch12 := (ch11).trans (hbB.mono (ch11).size)
    clear ch11
    clear hbB
    refine (same_self hl.out hv'.out).mono ?_
    rintro e w13 ⟨rfl, hb13⟩
    have hl := Lib.hid ((hl.out.below hb13).mono hb13.size)
    have hu := Lib.hid ((hu.out.below hb13).mono hb13.size)
    have hv' := Lib.hid ((hv'.out.below hb13).mono hb13.size)
    have hco := Lib.hid ((hco.out.below hb13).mono hb13.size)
    have b5 := Lib.hid (blk_lift hb13 b5.out)
    have bf := Lib.hid (blk_lift hb13 bf.out)
    have b9 := Lib.hid (blk_lift hb13 b9.out)
    have b11 := Lib.hid (blk_lift hb13 b11.out)
    have ch13 := (ch12).trans (hb13.mono (ch12).size)
    clear ch12
    clear hb13
    have e1 := box2 b5.out
    obtain ⟨e1a, e1b⟩ := e1
    have e2 := box2 bf.out
    obtain ⟨e2a, e2b⟩ := e2
    go_wp2_with fail
    clear e1a e1b
    clear e2a e2b
    refine (sameState_at rfl rfl hu.out hco.out).mono ?_
    rintro e w14 ⟨rfl, hb14⟩
    have hl := Lib.hid ((hl.out.below hb14).mono hb14.size)
    have hu := Lib.hid ((hu.out.below hb14).mono hb14.size)
    have hv' := Lib.hid ((hv'.out.below hb14).mono hb14.size)
    have hco := Lib.hid ((hco.out.below hb14).mono hb14.size)
    have b5 := Lib.hid (blk_lift hb14 b5.out)
    have bf := Lib.hid (blk_lift hb14 bf.out)
    have b9 := Lib.hid (blk_lift hb14 b9.out)
    have b11 := Lib.hid (blk_lift hb14 b11.out)
    have ch14 := (ch13).trans (hb14.mono (ch13).size)
    clear ch13
    clear hb14
    go_wp2_with fail
    refine (cvalid_at false hv hl.out).mono ?_
    rintro e w15 ⟨rfl, hb15⟩
    have hl := Lib.hid ((hl.out.below hb15).mono hb15.size)
    have hu := Lib.hid ((hu.out.below hb15).mono hb15.size)
    have hv' := Lib.hid ((hv'.out.below hb15).mono hb15.size)
    have hco := Lib.hid ((hco.out.below hb15).mono hb15.size)
    have b5 := Lib.hid (blk_lift hb15 b5.out)
    have bf := Lib.hid (blk_lift hb15 bf.out)
    have b9 := Lib.hid (blk_lift hb15 b9.out)
    have b11 := Lib.hid (blk_lift hb15 b11.out)
    have ch15 := (ch14).trans (hb15.mono (ch14).size)
    clear ch14
    clear hb15
    have e1 := box2 b9.out
    obtain ⟨e1a, e1b⟩ := e1
    go_wp2_with fail
    clear e1a e1b
    refine (none0_at _).mono ?_
    rintro e w16 ⟨rfl, hb16⟩
    have hl := Lib.hid ((hl.out.below hb16).mono hb16.size)
    have hu := Lib.hid ((hu.out.below hb16).mono hb16.size)
    have hv' := Lib.hid ((hv'.out.below hb16).mono hb16.size)
    have hco := Lib.hid ((hco.out.below hb16).mono hb16.size)
    have b5 := Lib.hid (blk_lift hb16 b5.out)
    have bf := Lib.hid (blk_lift hb16 bf.out)
    have b9 := Lib.hid (blk_lift hb16 b9.out)
    have b11 := Lib.hid (blk_lift hb16 b11.out)
    have ch16 := (ch15).trans (hb16.mono (ch15).size)
    clear ch15
    clear hb16
    have e1 := box2 b11.out
    obtain ⟨e1a, e1b⟩ := e1
    go_wp2_with fail
    clear e1a e1b
    refine (none0_at _).mono ?_
    rintro e w17 ⟨rfl, hb17⟩
    have hl := Lib.hid ((hl.out.below hb17).mono hb17.size)
    have hu := Lib.hid ((hu.out.below hb17).mono hb17.size)
    have hv' := Lib.hid ((hv'.out.below hb17).mono hb17.size)
    have hco := Lib.hid ((hco.out.below hb17).mono hb17.size)
    have b5 := Lib.hid (blk_lift hb17 b5.out)
    have bf := Lib.hid (blk_lift hb17 bf.out)
    have b9 := Lib.hid (blk_lift hb17 b9.out)
    have b11 := Lib.hid (blk_lift hb17 b11.out)
    have ch17 := (ch16).trans (hb17.mono (ch16).size)
    clear ch16
    clear hb17
    go_wp2_with fail
    refine (awake03 _).mono ?_
    rintro e w18 ⟨rfl, hb18⟩
    have hl := Lib.hid ((hl.out.below hb18).mono hb18.size)
    have hu := Lib.hid ((hu.out.below hb18).mono hb18.size)
    have hv' := Lib.hid ((hv'.out.below hb18).mono hb18.size)
    have hco := Lib.hid ((hco.out.below hb18).mono hb18.size)
    have b5 := Lib.hid (blk_lift hb18 b5.out)
    have bf := Lib.hid (blk_lift hb18 bf.out)
    have b9 := Lib.hid (blk_lift hb18 b9.out)
    have b11 := Lib.hid (blk_lift hb18 b11.out)
    have ch18 := (ch17).trans (hb18.mono (ch17).size)
    clear ch17
    clear hb18
    go_wp2
    go_ret
    exact ⟨rfl, ch18⟩)

set_option maxRecDepth 100000 in
set_option maxHeartbeats 8000000 in
theorem law_RunSteps_vxbad {w : World} (v : Value) (l : List Ins) (hl : InsRow w w.heap.size v l) (t : Tr) (ht : t.size ≤ 2000000) (hs : (TS t).size ≤ 140737488355328) (hx : isTree (TS t) = true) (n : Int) (au : Option Addr) (LL cu : Nat) (L : List ByteArray) (HLL : Hid (L.length = LL)) (hn : i64 n) (hz : L.length ≤ 8796093022208) (hu : StrRow w w.heap.size (.slice au LL cu) L) (hv : validB l = true) (hf : fitsB n l.length L = false) :
    Calls Try.prog 15 #[v, .string (TS t), .agg #[.int .i64 n, .slice au LL cu]] w fun e w' => e = .returned (.bool true) ∧ Below w.heap.size w w' := by
    have hl := Lib.hid hl
    have hu := Lib.hid hu
    obtain ⟨W0, hW0⟩ : ∃ W0, w.alloc (.cells #[.int .i64 n, .slice au LL cu] 53) = W0 := ⟨_, rfl⟩
    have hq0 : Below w.heap.size w W0 := by rw [← hW0]; exact alloc_below _ _
    have b5 := Lib.hid (show W0.heap[w.heap.size]? = some (.cells #[.int .i64 n, .slice au LL cu] 53 (0, 0)) by rw [← hW0]; exact box2_new _ _ _ _)
    have hl := Lib.hid ((hl.out.below hq0).mono hq0.size)
    have hu := Lib.hid ((hu.out.below hq0).mono hq0.size)
    have HQ0 := Lib.hid hq0
    have e00 := box2 b5.out
    obtain ⟨e00, e01⟩ := e00
    clear hq0
    go_enter Try.func15, Try.ntmps15
    have kTw : Hid (∀ w', Below W0.heap.size W0 w' → Calls Try.prog 20 #[v] w' fun e w'' => ∃ v', e = .returned v' ∧ Hid (InsRow w'' w''.heap.size v' l) ∧ Hid (Below w'.heap.size w' w'') ∧ Below W0.heap.size W0 w'') := fun w' hb => (twin_any v l w' ((hl.out.below hb).mono hb.size)).mono fun e w'' ⟨v', h1, h2, h3⟩ => ⟨v', h1, h2, h3, hb.trans (h3.mono hb.size)⟩
    have kCo : Hid (∀ w', Below W0.heap.size W0 w' → Calls Try.prog 48 #[.agg #[.int .i64 n, .slice au LL cu]] w' fun e w'' => ∃ ac cc, e = .returned (.agg #[.int .i64 n, .slice ac LL cc]) ∧ Hid (StrRow w'' w''.heap.size (.slice ac LL cc) L) ∧ Hid (Below w'.heap.size w' w'') ∧ Below W0.heap.size W0 w'') := fun w' hb => by
      refine (copied_any n _ L hz w' ((hu.out.below hb).mono hb.size)).mono ?_
      rintro e w'' ⟨a, c, h1, h2, h3⟩
      rw [HLL.out] at h1 h2
      exact ⟨a, c, h1, h2, h3, hb.trans (h3.mono hb.size)⟩
    have KEEP := Lib.hid (box2_keep b5.out)
    go_wp2
    go_region_held3 (fun w' => w'.cell? ⟨w.heap.size, 0, none⟩ = some (.int .i64 n) ∧ w'.cell? ⟨w.heap.size, 1, none⟩ = some (.slice au LL cu))
      (with_reducible (first | exact KEEP.out _ (hzC.alloc hzC.size _) | exact KEEP.out _ (hzC.alloc hzC.size _).drew | exact KEEP.out _ hzC | exact KEEP.out _ hzC.drew | exact KEEP.out _ (hzT.alloc hzT.size _) | exact KEEP.out _ (hzT.alloc hzT.size _).drew | exact KEEP.out _ hzT | exact KEEP.out _ hzT.drew | exact KEEP.out _ (Below.refl _ _) | exact KEEP.out _ (Below.refl _ _).drew | exact KEEP.out _ (alloc_below _ _) | exact KEEP.out _ (alloc_below _ _).drew | (have hzS := hzC; have hzR := hzT; exact KEEP.out _ ((hzS.setCell (by first | exact hzR.size | exact Nat.le_refl _) _).setCell (by first | exact hzR.size | exact Nat.le_refl _) _)) | (have hzS := hzC; have hzR := hzT; exact KEEP.out _ ((hzS.setCell (by first | exact hzR.size | exact Nat.le_refl _) _).setCell (by first | exact hzR.size | exact Nat.le_refl _) _).drew) | fail "keep"))
      ((first
        | ((with_reducible refine (kTw.out _ (by first | exact Below.refl _ _ | exact (Below.refl _ _).drew | exact alloc_below _ _ | exact (alloc_below _ _).drew | exact (Below.refl _ _).drew.alloc (Nat.le_refl _) _)).mono ?_); rintro e wT ⟨v', rfl, hv', hlT, hzT⟩)
        | ((with_reducible refine (kCo.out _ (by first | exact hzT | exact hzT.alloc hzT.size _)).mono ?_); rintro e wC ⟨ac, cc, rfl, hco, hlC, hzC⟩; (first | (have hb8 := blk_lift hlC.out (box2_new wT _ _ _); obtain ⟨k80, k81, k82, k83⟩ := box4 hb8; have hb08 := Lib.hid hb8; clear hb8) | (have hb8 := blk_lift hlC.out (blk_lift_drew hlT.out (box2_new W0 _ _ _)); obtain ⟨k80, k81, k82, k83⟩ := box4 hb8; have hb08 := Lib.hid hb8; clear hb8) | (have hb8 := blk_lift hlC.out (blk_lift hlT.out (box2_new W0 _ _ _)); obtain ⟨k80, k81, k82, k83⟩ := box4 hb8; have hb08 := Lib.hid hb8; clear hb8) | skip))
        | (fail "arm")))
    all_goals (
    (first | (have BF := (BoxFin.set (W0 := W0) (A := wC) (.int .i64 n) (.slice ac LL cc) hb08.out (by intro s h; cases h) (by intro s h; cases h) (by first | exact Nat.le_refl _ | exact hzT.size))) | (have BF := (BoxFin.alloc (W0 := W0) (A := wC) 53 (.int .i64 n) (.slice ac LL cc) hzC.size)))
    refine BoxFin.elimW BF ?_
    clear BF
    intro w8 BF
    refine BoxFin.elimB BF.out ?_
    clear BF
    intro b8 BF
    have b5 := Lib.hid (BF.out.blk' (by rw [← hW0]; simp) (blk_lift hzC b5.out))
    have bf := Lib.hid BF.out.blk
    have hl := Lib.hid (BF.out.ins ((hl.out.below hzC).mono hzC.size))
    have hu := Lib.hid (BF.out.str ((hu.out.below hzC).mono hzC.size))
    have hv' := Lib.hid (BF.out.ins (by first | exact (hv'.out.below hlC.out).mono hlC.out.size | exact (((hv'.out.below (alloc_below _ _)).mono (alloc_below _ _).size).below hlC.out).mono hlC.out.size))
    have hco := Lib.hid (BF.out.str hco.out)
    have ch8 := HQ0.out.trans ((BF.out.below hzC).mono HQ0.out.size)
    clear BF HQ0 hzC hlC hlT hzT kTw kCo KEEP e00 e01
    try clear hb08 k80 k81 k82 k83
    go_wp2_with fail
    refine (first_at ht rfl hv hl.out).mono ?_
    rintro e w9 ⟨a1, c1, rfl, hA1, hb9⟩
    have hl := Lib.hid ((hl.out.below hb9).mono hb9.size)
    have hu := Lib.hid ((hu.out.below hb9).mono hb9.size)
    have hv' := Lib.hid ((hv'.out.below hb9).mono hb9.size)
    have hco := Lib.hid ((hco.out.below hb9).mono hb9.size)
    have b5 := Lib.hid (blk_lift hb9 b5.out)
    have bf := Lib.hid (blk_lift hb9 bf.out)
    have ch9 := (ch8).trans (hb9.mono (ch8).size)
    clear ch8
    clear hb9
    have hA1 := Lib.hid hA1
    have e1 := box2 (blk_lift (alloc_below w9 (.cells #[.int .i64 0, .slice a1 32 c1] 53)) b5.out)
    obtain ⟨e1a, e1b⟩ := e1
    go_wp2_with fail
    clear e1a e1b
    obtain ⟨w10, hW⟩ : ∃ B, w9.alloc (.cells #[.int .i64 0, .slice a1 32 c1] 53) = B := ⟨_, rfl⟩
    rw [hW]
    have hbB : Below w9.heap.size w9 w10 := by rw [← hW]; exact alloc_below _ _
    have b9 := Lib.hid (show w10.heap[w9.heap.size]? = some (.cells #[.int .i64 0, .slice a1 32 c1] 53 (0, 0)) by rw [← hW]; exact box2_new _ _ _ _)
    clear hW
    have hl := Lib.hid ((hl.out.below hbB).mono hbB.size)
    have hu := Lib.hid ((hu.out.below hbB).mono hbB.size)
    have hv' := Lib.hid ((hv'.out.below hbB).mono hbB.size)
    have hco := Lib.hid ((hco.out.below hbB).mono hbB.size)
    have b5 := Lib.hid (blk_lift hbB b5.out)
    have bf := Lib.hid (blk_lift hbB bf.out)
    have hA1 := Lib.hid ((hA1.out.below hbB).mono hbB.size)
    have ch10 := (ch9).trans (hbB.mono (ch9).size)
    clear ch9
    clear hbB
    refine (step_bad_at hn (.inr hf) hl.out hu.out).mono ?_
    rintro e w11 ⟨rfl, hb11⟩
    have hl := Lib.hid ((hl.out.below hb11).mono hb11.size)
    have hu := Lib.hid ((hu.out.below hb11).mono hb11.size)
    have hv' := Lib.hid ((hv'.out.below hb11).mono hb11.size)
    have hco := Lib.hid ((hco.out.below hb11).mono hb11.size)
    have b5 := Lib.hid (blk_lift hb11 b5.out)
    have bf := Lib.hid (blk_lift hb11 bf.out)
    have hA1 := Lib.hid ((hA1.out.below hb11).mono hb11.size)
    have b9 := Lib.hid (blk_lift hb11 b9.out)
    have ch11 := (ch10).trans (hb11.mono (ch10).size)
    clear ch10
    clear hb11
    go_wp2_with fail
    obtain ⟨w12, hW⟩ : ∃ B, w11.alloc (.cells #[.int .i64 0, .slice none 0 0] 53) = B := ⟨_, rfl⟩
    rw [hW]
    have hbB : Below w11.heap.size w11 w12 := by rw [← hW]; exact alloc_below _ _
    have b11 := Lib.hid (show w12.heap[w11.heap.size]? = some (.cells #[.int .i64 0, .slice none 0 0] 53 (0, 0)) by rw [← hW]; exact box2_new _ _ _ _)
    clear hW
    have hl := Lib.hid ((hl.out.below hbB).mono hbB.size)
    have hu := Lib.hid ((hu.out.below hbB).mono hbB.size)
    have hv' := Lib.hid ((hv'.out.below hbB).mono hbB.size)
    have hco := Lib.hid ((hco.out.below hbB).mono hbB.size)
    have b5 := Lib.hid (blk_lift hbB b5.out)
    have bf := Lib.hid (blk_lift hbB bf.out)
    have hA1 := Lib.hid ((hA1.out.below hbB).mono hbB.size)
    have b9 := Lib.hid (blk_lift hbB b9.out)
    have ch12 := (ch11).trans (hbB.mono (ch11).size)
    clear ch11
    clear hbB
    refine (same_self hl.out hv'.out).mono ?_
    rintro e w13 ⟨rfl, hb13⟩
    have hl := Lib.hid ((hl.out.below hb13).mono hb13.size)
    have hu := Lib.hid ((hu.out.below hb13).mono hb13.size)
    have hv' := Lib.hid ((hv'.out.below hb13).mono hb13.size)
    have hco := Lib.hid ((hco.out.below hb13).mono hb13.size)
    have b5 := Lib.hid (blk_lift hb13 b5.out)
    have bf := Lib.hid (blk_lift hb13 bf.out)
    have hA1 := Lib.hid ((hA1.out.below hb13).mono hb13.size)
    have b9 := Lib.hid (blk_lift hb13 b9.out)
    have b11 := Lib.hid (blk_lift hb13 b11.out)
    have ch13 := (ch12).trans (hb13.mono (ch12).size)
    clear ch12
    clear hb13
    have e1 := box2 b5.out
    obtain ⟨e1a, e1b⟩ := e1
    have e2 := box2 bf.out
    obtain ⟨e2a, e2b⟩ := e2
    go_wp2_with fail
    clear e1a e1b
    clear e2a e2b
    refine (sameState_at rfl rfl hu.out hco.out).mono ?_
    rintro e w14 ⟨rfl, hb14⟩
    have hl := Lib.hid ((hl.out.below hb14).mono hb14.size)
    have hu := Lib.hid ((hu.out.below hb14).mono hb14.size)
    have hv' := Lib.hid ((hv'.out.below hb14).mono hb14.size)
    have hco := Lib.hid ((hco.out.below hb14).mono hb14.size)
    have b5 := Lib.hid (blk_lift hb14 b5.out)
    have bf := Lib.hid (blk_lift hb14 bf.out)
    have hA1 := Lib.hid ((hA1.out.below hb14).mono hb14.size)
    have b9 := Lib.hid (blk_lift hb14 b9.out)
    have b11 := Lib.hid (blk_lift hb14 b11.out)
    have ch14 := (ch13).trans (hb14.mono (ch13).size)
    clear ch13
    clear hb14
    go_wp2_with fail
    refine (cvalid_at true hv hl.out).mono ?_
    rintro e w15 ⟨rfl, hb15⟩
    have hl := Lib.hid ((hl.out.below hb15).mono hb15.size)
    have hu := Lib.hid ((hu.out.below hb15).mono hb15.size)
    have hv' := Lib.hid ((hv'.out.below hb15).mono hb15.size)
    have hco := Lib.hid ((hco.out.below hb15).mono hb15.size)
    have b5 := Lib.hid (blk_lift hb15 b5.out)
    have bf := Lib.hid (blk_lift hb15 bf.out)
    have hA1 := Lib.hid ((hA1.out.below hb15).mono hb15.size)
    have b9 := Lib.hid (blk_lift hb15 b9.out)
    have b11 := Lib.hid (blk_lift hb15 b11.out)
    have ch15 := (ch14).trans (hb15.mono (ch14).size)
    clear ch14
    clear hb15
    go_wp2_with fail
    refine (tvalid_at _ hs true hx _).mono ?_
    rintro e w16 ⟨rfl, hb16⟩
    have hl := Lib.hid ((hl.out.below hb16).mono hb16.size)
    have hu := Lib.hid ((hu.out.below hb16).mono hb16.size)
    have hv' := Lib.hid ((hv'.out.below hb16).mono hb16.size)
    have hco := Lib.hid ((hco.out.below hb16).mono hb16.size)
    have b5 := Lib.hid (blk_lift hb16 b5.out)
    have bf := Lib.hid (blk_lift hb16 bf.out)
    have hA1 := Lib.hid ((hA1.out.below hb16).mono hb16.size)
    have b9 := Lib.hid (blk_lift hb16 b9.out)
    have b11 := Lib.hid (blk_lift hb16 b11.out)
    have ch16 := (ch15).trans (hb16.mono (ch15).size)
    clear ch15
    clear hb16
    have KEEP := Lib.hid (box2_keep b9.out)
    have kR := Lib.hid (read_hid (w := w16) ht)
    have kF := Lib.hid (rfirst_hid (w := w16) (t := t))
    have kT := Lib.hid (rtext_hid (w := w16) 0 rfl (Good.start 0 t ht))
    have kS := Lib.hid (sameState_hid (w := w16) (n := 0) hA1.out)
    go_wp2
    go_region_held3 (fun w' => w'.cell? ⟨w9.heap.size, 0, none⟩ = some (.int .i64 0) ∧ w'.cell? ⟨w9.heap.size, 1, none⟩ = some (.slice a1 32 c1))
      (with_reducible (first | exact KEEP.out _ (hzd.alloc hzd.size _) | exact KEEP.out _ (hzd.alloc hzd.size _).drew | exact KEEP.out _ hzd | exact KEEP.out _ hzd.drew | exact KEEP.out _ (hzc.alloc hzc.size _) | exact KEEP.out _ (hzc.alloc hzc.size _).drew | exact KEEP.out _ hzc | exact KEEP.out _ hzc.drew | exact KEEP.out _ (hzb.alloc hzb.size _) | exact KEEP.out _ (hzb.alloc hzb.size _).drew | exact KEEP.out _ hzb | exact KEEP.out _ hzb.drew | exact KEEP.out _ (hza.alloc hza.size _) | exact KEEP.out _ (hza.alloc hza.size _).drew | exact KEEP.out _ hza | exact KEEP.out _ hza.drew | exact KEEP.out _ (Below.refl _ _) | exact KEEP.out _ (Below.refl _ _).drew | exact KEEP.out _ (alloc_below _ _) | exact KEEP.out _ (alloc_below _ _).drew | fail "keep"))
      ((first
        | ((with_reducible refine (kR.out _ (by first | exact Below.refl _ _ | exact (Below.refl _ _).drew)).mono ?_); rintro e wa ⟨q, rfl, hq, hza⟩)
        | ((with_reducible refine (kF.out _ q hq.out hza).mono ?_); rintro e wb ⟨gs1, rfl, hs1, hzb⟩)
        | ((with_reducible refine (kT.out _ gs1 (by obtain ⟨T, gr, ps, h⟩ := hs1.out; exact ⟨T, gr, 32, ps, h⟩) hzb).mono ?_); rintro e wc ⟨x1, rfl, hx1, hzc⟩)
        | ((with_reducible refine (kS.out _ x1 hx1.out hzc).mono ?_); rintro e w17 ⟨rfl, hzd⟩)
        | (fail "arm")))
    have hl := Lib.hid ((hl.out.below hzd).mono hzd.size)
    have hu := Lib.hid ((hu.out.below hzd).mono hzd.size)
    have hv' := Lib.hid ((hv'.out.below hzd).mono hzd.size)
    have hco := Lib.hid ((hco.out.below hzd).mono hzd.size)
    have b5 := Lib.hid (blk_lift hzd b5.out)
    have bf := Lib.hid (blk_lift hzd bf.out)
    have hA1 := Lib.hid ((hA1.out.below hzd).mono hzd.size)
    have b9 := Lib.hid (blk_lift hzd b9.out)
    have b11 := Lib.hid (blk_lift hzd b11.out)
    have ch17 := (ch16).trans (hzd.mono (ch16).size)
    clear ch16
    clear kR kF kT kS KEEP hzd
    have e1 := box2 b5.out
    obtain ⟨e1a, e1b⟩ := e1
    go_wp2_with fail
    clear e1a e1b
    refine (fits3_at false hf hn hl.out hu.out).mono ?_
    rintro e w18 ⟨rfl, hb18⟩
    have hl := Lib.hid ((hl.out.below hb18).mono hb18.size)
    have hu := Lib.hid ((hu.out.below hb18).mono hb18.size)
    have hv' := Lib.hid ((hv'.out.below hb18).mono hb18.size)
    have hco := Lib.hid ((hco.out.below hb18).mono hb18.size)
    have b5 := Lib.hid (blk_lift hb18 b5.out)
    have bf := Lib.hid (blk_lift hb18 bf.out)
    have hA1 := Lib.hid ((hA1.out.below hb18).mono hb18.size)
    have b9 := Lib.hid (blk_lift hb18 b9.out)
    have b11 := Lib.hid (blk_lift hb18 b11.out)
    have ch18 := (ch17).trans (hb18.mono (ch17).size)
    clear ch17
    clear hb18
    have e1 := box2 b11.out
    obtain ⟨e1a, e1b⟩ := e1
    go_wp2_with fail
    clear e1a e1b
    refine (none0_at _).mono ?_
    rintro e w19 ⟨rfl, hb19⟩
    have hl := Lib.hid ((hl.out.below hb19).mono hb19.size)
    have hu := Lib.hid ((hu.out.below hb19).mono hb19.size)
    have hv' := Lib.hid ((hv'.out.below hb19).mono hb19.size)
    have hco := Lib.hid ((hco.out.below hb19).mono hb19.size)
    have b5 := Lib.hid (blk_lift hb19 b5.out)
    have bf := Lib.hid (blk_lift hb19 bf.out)
    have hA1 := Lib.hid ((hA1.out.below hb19).mono hb19.size)
    have b9 := Lib.hid (blk_lift hb19 b9.out)
    have b11 := Lib.hid (blk_lift hb19 b11.out)
    have ch19 := (ch18).trans (hb19.mono (ch18).size)
    clear ch18
    clear hb19
    go_wp2_with fail
    refine (awake03 _).mono ?_
    rintro e w20 ⟨rfl, hb20⟩
    have hl := Lib.hid ((hl.out.below hb20).mono hb20.size)
    have hu := Lib.hid ((hu.out.below hb20).mono hb20.size)
    have hv' := Lib.hid ((hv'.out.below hb20).mono hb20.size)
    have hco := Lib.hid ((hco.out.below hb20).mono hb20.size)
    have b5 := Lib.hid (blk_lift hb20 b5.out)
    have bf := Lib.hid (blk_lift hb20 bf.out)
    have hA1 := Lib.hid ((hA1.out.below hb20).mono hb20.size)
    have b9 := Lib.hid (blk_lift hb20 b9.out)
    have b11 := Lib.hid (blk_lift hb20 b11.out)
    have ch20 := (ch19).trans (hb20.mono (ch19).size)
    clear ch19
    clear hb20
    go_wp2
    go_ret
    exact ⟨rfl, ch20⟩)

set_option maxRecDepth 100000 in
set_option maxHeartbeats 8000000 in
theorem law_RunSteps_vxend {w : World} (v : Value) (l : List Ins) (hl : InsRow w w.heap.size v l) (t : Tr) (ht : t.size ≤ 2000000) (hs : (TS t).size ≤ 140737488355328) (hx : isTree (TS t) = true) (n : Int) (au : Option Addr) (LL cu : Nat) (L : List ByteArray) (HLL : Hid (L.length = LL)) (hn : i64 n) (hz : L.length ≤ 8796093022208) (hu : StrRow w w.heap.size (.slice au LL cu) L) (hv : validB l = true) (hf : fitsB n l.length L = true) (he : Hid (n = l.length)) :
    Calls Try.prog 15 #[v, .string (TS t), .agg #[.int .i64 n, .slice au LL cu]] w fun e w' => e = .returned (.bool true) ∧ Below w.heap.size w w' := by
    have hl := Lib.hid hl
    have hu := Lib.hid hu
    obtain ⟨W0, hW0⟩ : ∃ W0, w.alloc (.cells #[.int .i64 n, .slice au LL cu] 53) = W0 := ⟨_, rfl⟩
    have hq0 : Below w.heap.size w W0 := by rw [← hW0]; exact alloc_below _ _
    have b5 := Lib.hid (show W0.heap[w.heap.size]? = some (.cells #[.int .i64 n, .slice au LL cu] 53 (0, 0)) by rw [← hW0]; exact box2_new _ _ _ _)
    have hl := Lib.hid ((hl.out.below hq0).mono hq0.size)
    have hu := Lib.hid ((hu.out.below hq0).mono hq0.size)
    have HQ0 := Lib.hid hq0
    have e00 := box2 b5.out
    obtain ⟨e00, e01⟩ := e00
    clear hq0
    go_enter Try.func15, Try.ntmps15
    have kTw : Hid (∀ w', Below W0.heap.size W0 w' → Calls Try.prog 20 #[v] w' fun e w'' => ∃ v', e = .returned v' ∧ Hid (InsRow w'' w''.heap.size v' l) ∧ Hid (Below w'.heap.size w' w'') ∧ Below W0.heap.size W0 w'') := fun w' hb => (twin_any v l w' ((hl.out.below hb).mono hb.size)).mono fun e w'' ⟨v', h1, h2, h3⟩ => ⟨v', h1, h2, h3, hb.trans (h3.mono hb.size)⟩
    have kCo : Hid (∀ w', Below W0.heap.size W0 w' → Calls Try.prog 48 #[.agg #[.int .i64 n, .slice au LL cu]] w' fun e w'' => ∃ ac cc, e = .returned (.agg #[.int .i64 n, .slice ac LL cc]) ∧ Hid (StrRow w'' w''.heap.size (.slice ac LL cc) L) ∧ Hid (Below w'.heap.size w' w'') ∧ Below W0.heap.size W0 w'') := fun w' hb => by
      refine (copied_any n _ L hz w' ((hu.out.below hb).mono hb.size)).mono ?_
      rintro e w'' ⟨a, c, h1, h2, h3⟩
      rw [HLL.out] at h1 h2
      exact ⟨a, c, h1, h2, h3, hb.trans (h3.mono hb.size)⟩
    have KEEP := Lib.hid (box2_keep b5.out)
    go_wp2
    go_region_held3 (fun w' => w'.cell? ⟨w.heap.size, 0, none⟩ = some (.int .i64 n) ∧ w'.cell? ⟨w.heap.size, 1, none⟩ = some (.slice au LL cu))
      (with_reducible (first | exact KEEP.out _ (hzC.alloc hzC.size _) | exact KEEP.out _ (hzC.alloc hzC.size _).drew | exact KEEP.out _ hzC | exact KEEP.out _ hzC.drew | exact KEEP.out _ (hzT.alloc hzT.size _) | exact KEEP.out _ (hzT.alloc hzT.size _).drew | exact KEEP.out _ hzT | exact KEEP.out _ hzT.drew | exact KEEP.out _ (Below.refl _ _) | exact KEEP.out _ (Below.refl _ _).drew | exact KEEP.out _ (alloc_below _ _) | exact KEEP.out _ (alloc_below _ _).drew | (have hzS := hzC; have hzR := hzT; exact KEEP.out _ ((hzS.setCell (by first | exact hzR.size | exact Nat.le_refl _) _).setCell (by first | exact hzR.size | exact Nat.le_refl _) _)) | (have hzS := hzC; have hzR := hzT; exact KEEP.out _ ((hzS.setCell (by first | exact hzR.size | exact Nat.le_refl _) _).setCell (by first | exact hzR.size | exact Nat.le_refl _) _).drew) | fail "keep"))
      ((first
        | ((with_reducible refine (kTw.out _ (by first | exact Below.refl _ _ | exact (Below.refl _ _).drew | exact alloc_below _ _ | exact (alloc_below _ _).drew | exact (Below.refl _ _).drew.alloc (Nat.le_refl _) _)).mono ?_); rintro e wT ⟨v', rfl, hv', hlT, hzT⟩)
        | ((with_reducible refine (kCo.out _ (by first | exact hzT | exact hzT.alloc hzT.size _)).mono ?_); rintro e wC ⟨ac, cc, rfl, hco, hlC, hzC⟩; (first | (have hb8 := blk_lift hlC.out (box2_new wT _ _ _); obtain ⟨k80, k81, k82, k83⟩ := box4 hb8; have hb08 := Lib.hid hb8; clear hb8) | (have hb8 := blk_lift hlC.out (blk_lift_drew hlT.out (box2_new W0 _ _ _)); obtain ⟨k80, k81, k82, k83⟩ := box4 hb8; have hb08 := Lib.hid hb8; clear hb8) | (have hb8 := blk_lift hlC.out (blk_lift hlT.out (box2_new W0 _ _ _)); obtain ⟨k80, k81, k82, k83⟩ := box4 hb8; have hb08 := Lib.hid hb8; clear hb8) | skip))
        | (fail "arm")))
    all_goals (
    (first | (have BF := (BoxFin.set (W0 := W0) (A := wC) (.int .i64 n) (.slice ac LL cc) hb08.out (by intro s h; cases h) (by intro s h; cases h) (by first | exact Nat.le_refl _ | exact hzT.size))) | (have BF := (BoxFin.alloc (W0 := W0) (A := wC) 53 (.int .i64 n) (.slice ac LL cc) hzC.size)))
    refine BoxFin.elimW BF ?_
    clear BF
    intro w8 BF
    refine BoxFin.elimB BF.out ?_
    clear BF
    intro b8 BF
    have b5 := Lib.hid (BF.out.blk' (by rw [← hW0]; simp) (blk_lift hzC b5.out))
    have bf := Lib.hid BF.out.blk
    have hl := Lib.hid (BF.out.ins ((hl.out.below hzC).mono hzC.size))
    have hu := Lib.hid (BF.out.str ((hu.out.below hzC).mono hzC.size))
    have hv' := Lib.hid (BF.out.ins (by first | exact (hv'.out.below hlC.out).mono hlC.out.size | exact (((hv'.out.below (alloc_below _ _)).mono (alloc_below _ _).size).below hlC.out).mono hlC.out.size))
    have hco := Lib.hid (BF.out.str hco.out)
    have ch8 := HQ0.out.trans ((BF.out.below hzC).mono HQ0.out.size)
    clear BF HQ0 hzC hlC hlT hzT kTw kCo KEEP e00 e01
    try clear hb08 k80 k81 k82 k83
    go_wp2_with fail
    refine (first_at ht rfl hv hl.out).mono ?_
    rintro e w9 ⟨a1, c1, rfl, hA1, hb9⟩
    have hl := Lib.hid ((hl.out.below hb9).mono hb9.size)
    have hu := Lib.hid ((hu.out.below hb9).mono hb9.size)
    have hv' := Lib.hid ((hv'.out.below hb9).mono hb9.size)
    have hco := Lib.hid ((hco.out.below hb9).mono hb9.size)
    have b5 := Lib.hid (blk_lift hb9 b5.out)
    have bf := Lib.hid (blk_lift hb9 bf.out)
    have ch9 := (ch8).trans (hb9.mono (ch8).size)
    clear ch8
    clear hb9
    have hA1 := Lib.hid hA1
    have e1 := box2 (blk_lift (alloc_below w9 (.cells #[.int .i64 0, .slice a1 32 c1] 53)) b5.out)
    obtain ⟨e1a, e1b⟩ := e1
    go_wp2_with fail
    clear e1a e1b
    obtain ⟨w10, hW⟩ : ∃ B, w9.alloc (.cells #[.int .i64 0, .slice a1 32 c1] 53) = B := ⟨_, rfl⟩
    rw [hW]
    have hbB : Below w9.heap.size w9 w10 := by rw [← hW]; exact alloc_below _ _
    have b9 := Lib.hid (show w10.heap[w9.heap.size]? = some (.cells #[.int .i64 0, .slice a1 32 c1] 53 (0, 0)) by rw [← hW]; exact box2_new _ _ _ _)
    clear hW
    have hl := Lib.hid ((hl.out.below hbB).mono hbB.size)
    have hu := Lib.hid ((hu.out.below hbB).mono hbB.size)
    have hv' := Lib.hid ((hv'.out.below hbB).mono hbB.size)
    have hco := Lib.hid ((hco.out.below hbB).mono hbB.size)
    have b5 := Lib.hid (blk_lift hbB b5.out)
    have bf := Lib.hid (blk_lift hbB bf.out)
    have hA1 := Lib.hid ((hA1.out.below hbB).mono hbB.size)
    have ch10 := (ch9).trans (hbB.mono (ch9).size)
    clear ch9
    clear hbB
    refine (step_end_at hv hf he.out hl.out hu.out).mono ?_
    rintro e w11 ⟨rfl, hb11⟩
    have hl := Lib.hid ((hl.out.below hb11).mono hb11.size)
    have hu := Lib.hid ((hu.out.below hb11).mono hb11.size)
    have hv' := Lib.hid ((hv'.out.below hb11).mono hb11.size)
    have hco := Lib.hid ((hco.out.below hb11).mono hb11.size)
    have b5 := Lib.hid (blk_lift hb11 b5.out)
    have bf := Lib.hid (blk_lift hb11 bf.out)
    have hA1 := Lib.hid ((hA1.out.below hb11).mono hb11.size)
    have b9 := Lib.hid (blk_lift hb11 b9.out)
    have ch11 := (ch10).trans (hb11.mono (ch10).size)
    clear ch10
    clear hb11
    go_wp2_with fail
    obtain ⟨w12, hW⟩ : ∃ B, w11.alloc (.cells #[.int .i64 0, .slice none 0 0] 53) = B := ⟨_, rfl⟩
    rw [hW]
    have hbB : Below w11.heap.size w11 w12 := by rw [← hW]; exact alloc_below _ _
    have b11 := Lib.hid (show w12.heap[w11.heap.size]? = some (.cells #[.int .i64 0, .slice none 0 0] 53 (0, 0)) by rw [← hW]; exact box2_new _ _ _ _)
    clear hW
    have hl := Lib.hid ((hl.out.below hbB).mono hbB.size)
    have hu := Lib.hid ((hu.out.below hbB).mono hbB.size)
    have hv' := Lib.hid ((hv'.out.below hbB).mono hbB.size)
    have hco := Lib.hid ((hco.out.below hbB).mono hbB.size)
    have b5 := Lib.hid (blk_lift hbB b5.out)
    have bf := Lib.hid (blk_lift hbB bf.out)
    have hA1 := Lib.hid ((hA1.out.below hbB).mono hbB.size)
    have b9 := Lib.hid (blk_lift hbB b9.out)
    have ch12 := (ch11).trans (hbB.mono (ch11).size)
    clear ch11
    clear hbB
    refine (same_self hl.out hv'.out).mono ?_
    rintro e w13 ⟨rfl, hb13⟩
    have hl := Lib.hid ((hl.out.below hb13).mono hb13.size)
    have hu := Lib.hid ((hu.out.below hb13).mono hb13.size)
    have hv' := Lib.hid ((hv'.out.below hb13).mono hb13.size)
    have hco := Lib.hid ((hco.out.below hb13).mono hb13.size)
    have b5 := Lib.hid (blk_lift hb13 b5.out)
    have bf := Lib.hid (blk_lift hb13 bf.out)
    have hA1 := Lib.hid ((hA1.out.below hb13).mono hb13.size)
    have b9 := Lib.hid (blk_lift hb13 b9.out)
    have b11 := Lib.hid (blk_lift hb13 b11.out)
    have ch13 := (ch12).trans (hb13.mono (ch12).size)
    clear ch12
    clear hb13
    have e1 := box2 b5.out
    obtain ⟨e1a, e1b⟩ := e1
    have e2 := box2 bf.out
    obtain ⟨e2a, e2b⟩ := e2
    go_wp2_with fail
    clear e1a e1b
    clear e2a e2b
    refine (sameState_at rfl rfl hu.out hco.out).mono ?_
    rintro e w14 ⟨rfl, hb14⟩
    have hl := Lib.hid ((hl.out.below hb14).mono hb14.size)
    have hu := Lib.hid ((hu.out.below hb14).mono hb14.size)
    have hv' := Lib.hid ((hv'.out.below hb14).mono hb14.size)
    have hco := Lib.hid ((hco.out.below hb14).mono hb14.size)
    have b5 := Lib.hid (blk_lift hb14 b5.out)
    have bf := Lib.hid (blk_lift hb14 bf.out)
    have hA1 := Lib.hid ((hA1.out.below hb14).mono hb14.size)
    have b9 := Lib.hid (blk_lift hb14 b9.out)
    have b11 := Lib.hid (blk_lift hb14 b11.out)
    have ch14 := (ch13).trans (hb14.mono (ch13).size)
    clear ch13
    clear hb14
    go_wp2_with fail
    refine (cvalid_at true hv hl.out).mono ?_
    rintro e w15 ⟨rfl, hb15⟩
    have hl := Lib.hid ((hl.out.below hb15).mono hb15.size)
    have hu := Lib.hid ((hu.out.below hb15).mono hb15.size)
    have hv' := Lib.hid ((hv'.out.below hb15).mono hb15.size)
    have hco := Lib.hid ((hco.out.below hb15).mono hb15.size)
    have b5 := Lib.hid (blk_lift hb15 b5.out)
    have bf := Lib.hid (blk_lift hb15 bf.out)
    have hA1 := Lib.hid ((hA1.out.below hb15).mono hb15.size)
    have b9 := Lib.hid (blk_lift hb15 b9.out)
    have b11 := Lib.hid (blk_lift hb15 b11.out)
    have ch15 := (ch14).trans (hb15.mono (ch14).size)
    clear ch14
    clear hb15
    go_wp2_with fail
    refine (tvalid_at _ hs true hx _).mono ?_
    rintro e w16 ⟨rfl, hb16⟩
    have hl := Lib.hid ((hl.out.below hb16).mono hb16.size)
    have hu := Lib.hid ((hu.out.below hb16).mono hb16.size)
    have hv' := Lib.hid ((hv'.out.below hb16).mono hb16.size)
    have hco := Lib.hid ((hco.out.below hb16).mono hb16.size)
    have b5 := Lib.hid (blk_lift hb16 b5.out)
    have bf := Lib.hid (blk_lift hb16 bf.out)
    have hA1 := Lib.hid ((hA1.out.below hb16).mono hb16.size)
    have b9 := Lib.hid (blk_lift hb16 b9.out)
    have b11 := Lib.hid (blk_lift hb16 b11.out)
    have ch16 := (ch15).trans (hb16.mono (ch15).size)
    clear ch15
    clear hb16
    have KEEP := Lib.hid (box2_keep b9.out)
    have kR := Lib.hid (read_hid (w := w16) ht)
    have kF := Lib.hid (rfirst_hid (w := w16) (t := t))
    have kT := Lib.hid (rtext_hid (w := w16) 0 rfl (Good.start 0 t ht))
    have kS := Lib.hid (sameState_hid (w := w16) (n := 0) hA1.out)
    go_wp2
    go_region_held3 (fun w' => w'.cell? ⟨w9.heap.size, 0, none⟩ = some (.int .i64 0) ∧ w'.cell? ⟨w9.heap.size, 1, none⟩ = some (.slice a1 32 c1))
      (with_reducible (first | exact KEEP.out _ (hzd.alloc hzd.size _) | exact KEEP.out _ (hzd.alloc hzd.size _).drew | exact KEEP.out _ hzd | exact KEEP.out _ hzd.drew | exact KEEP.out _ (hzc.alloc hzc.size _) | exact KEEP.out _ (hzc.alloc hzc.size _).drew | exact KEEP.out _ hzc | exact KEEP.out _ hzc.drew | exact KEEP.out _ (hzb.alloc hzb.size _) | exact KEEP.out _ (hzb.alloc hzb.size _).drew | exact KEEP.out _ hzb | exact KEEP.out _ hzb.drew | exact KEEP.out _ (hza.alloc hza.size _) | exact KEEP.out _ (hza.alloc hza.size _).drew | exact KEEP.out _ hza | exact KEEP.out _ hza.drew | exact KEEP.out _ (Below.refl _ _) | exact KEEP.out _ (Below.refl _ _).drew | exact KEEP.out _ (alloc_below _ _) | exact KEEP.out _ (alloc_below _ _).drew | fail "keep"))
      ((first
        | ((with_reducible refine (kR.out _ (by first | exact Below.refl _ _ | exact (Below.refl _ _).drew)).mono ?_); rintro e wa ⟨q, rfl, hq, hza⟩)
        | ((with_reducible refine (kF.out _ q hq.out hza).mono ?_); rintro e wb ⟨gs1, rfl, hs1, hzb⟩)
        | ((with_reducible refine (kT.out _ gs1 (by obtain ⟨T, gr, ps, h⟩ := hs1.out; exact ⟨T, gr, 32, ps, h⟩) hzb).mono ?_); rintro e wc ⟨x1, rfl, hx1, hzc⟩)
        | ((with_reducible refine (kS.out _ x1 hx1.out hzc).mono ?_); rintro e w17 ⟨rfl, hzd⟩)
        | (fail "arm")))
    have hl := Lib.hid ((hl.out.below hzd).mono hzd.size)
    have hu := Lib.hid ((hu.out.below hzd).mono hzd.size)
    have hv' := Lib.hid ((hv'.out.below hzd).mono hzd.size)
    have hco := Lib.hid ((hco.out.below hzd).mono hzd.size)
    have b5 := Lib.hid (blk_lift hzd b5.out)
    have bf := Lib.hid (blk_lift hzd bf.out)
    have hA1 := Lib.hid ((hA1.out.below hzd).mono hzd.size)
    have b9 := Lib.hid (blk_lift hzd b9.out)
    have b11 := Lib.hid (blk_lift hzd b11.out)
    have ch17 := (ch16).trans (hzd.mono (ch16).size)
    clear ch16
    clear kR kF kT kS KEEP hzd
    have e1 := box2 b5.out
    obtain ⟨e1a, e1b⟩ := e1
    go_wp2_with fail
    clear e1a e1b
    refine (fits3_at true hf hn hl.out hu.out).mono ?_
    rintro e w18 ⟨rfl, hb18⟩
    have hl := Lib.hid ((hl.out.below hb18).mono hb18.size)
    have hu := Lib.hid ((hu.out.below hb18).mono hb18.size)
    have hv' := Lib.hid ((hv'.out.below hb18).mono hb18.size)
    have hco := Lib.hid ((hco.out.below hb18).mono hb18.size)
    have b5 := Lib.hid (blk_lift hb18 b5.out)
    have bf := Lib.hid (blk_lift hb18 bf.out)
    have hA1 := Lib.hid ((hA1.out.below hb18).mono hb18.size)
    have b9 := Lib.hid (blk_lift hb18 b9.out)
    have b11 := Lib.hid (blk_lift hb18 b11.out)
    have ch18 := (ch17).trans (hb18.mono (ch17).size)
    clear ch17
    clear hb18
    have KEEP := Lib.hid (box2_keep b5.out)
    have kL := Lib.hid (load_hid (w := w18) hl.out hv)
    have kD := Lib.hid (rread_hid (w := w18) hf hu.out (l := l) (v := v))
    go_wp2
    go_region_held3 (fun w' => w'.cell? ⟨w.heap.size, 0, none⟩ = some (.int .i64 n) ∧ w'.cell? ⟨w.heap.size, 1, none⟩ = some (.slice au LL cu))
      (with_reducible (first | exact KEEP.out _ (hzd.alloc hzd.size _) | exact KEEP.out _ (hzd.alloc hzd.size _).drew | exact KEEP.out _ hzd | exact KEEP.out _ hzd.drew | exact KEEP.out _ (hza.alloc hza.size _) | exact KEEP.out _ (hza.alloc hza.size _).drew | exact KEEP.out _ hza | exact KEEP.out _ hza.drew | exact KEEP.out _ (Below.refl _ _) | exact KEEP.out _ (Below.refl _ _).drew | exact KEEP.out _ (alloc_below _ _) | exact KEEP.out _ (alloc_below _ _).drew | fail "keep"))
      ((first
        | ((with_reducible refine (kL.out _ (by first | exact Below.refl _ _ | exact (Below.refl _ _).drew)).mono ?_); rintro e wa ⟨gm, tv, rfl, hm, hza⟩)
        | ((with_reducible refine (kD.out _ gm tv hm.out hza).mono ?_); rintro e w19 ⟨gs, rfl, hbo, hzd⟩)
        | (fail "arm")))
    have hl := Lib.hid ((hl.out.below hzd).mono hzd.size)
    have hu := Lib.hid ((hu.out.below hzd).mono hzd.size)
    have hv' := Lib.hid ((hv'.out.below hzd).mono hzd.size)
    have hco := Lib.hid ((hco.out.below hzd).mono hzd.size)
    have b5 := Lib.hid (blk_lift hzd b5.out)
    have bf := Lib.hid (blk_lift hzd bf.out)
    have hA1 := Lib.hid ((hA1.out.below hzd).mono hzd.size)
    have b9 := Lib.hid (blk_lift hzd b9.out)
    have b11 := Lib.hid (blk_lift hzd b11.out)
    have ch19 := (ch18).trans (hzd.mono (ch18).size)
    clear ch18
    clear kL kD KEEP hzd
    obtain ⟨T, hT, hbo⟩ := hbo.out
    have hT : w18.heap.size ≤ T := hT
    go_wp2_with fail
    refine (ended_at3 true (by have h1 := he.out; have h2 := (fitsB_iff hf).1; show (((n.toNat : Nat) : Int) == (l.length : Int)) = _; simp; omega) hbo).mono ?_
    rintro e w20 ⟨rfl, hbo2, hb20⟩
    have hl := Lib.hid ((hl.out.below hb20).mono hb20.size)
    have hu := Lib.hid ((hu.out.below hb20).mono hb20.size)
    have hv' := Lib.hid ((hv'.out.below hb20).mono hb20.size)
    have hco := Lib.hid ((hco.out.below hb20).mono hb20.size)
    have b5 := Lib.hid (blk_lift hb20 b5.out)
    have bf := Lib.hid (blk_lift hb20 bf.out)
    have hA1 := Lib.hid ((hA1.out.below hb20).mono hb20.size)
    have b9 := Lib.hid (blk_lift hb20 b9.out)
    have b11 := Lib.hid (blk_lift hb20 b11.out)
    have ch20 := (ch19).trans (hb20.mono (ch19).size)
    clear ch19
    clear hb20
    have e1 := box2 b11.out
    obtain ⟨e1a, e1b⟩ := e1
    go_wp2_with fail
    clear e1a e1b
    refine (none0_at _).mono ?_
    rintro e w21 ⟨rfl, hb21⟩
    have hl := Lib.hid ((hl.out.below hb21).mono hb21.size)
    have hu := Lib.hid ((hu.out.below hb21).mono hb21.size)
    have hv' := Lib.hid ((hv'.out.below hb21).mono hb21.size)
    have hco := Lib.hid ((hco.out.below hb21).mono hb21.size)
    have b5 := Lib.hid (blk_lift hb21 b5.out)
    have bf := Lib.hid (blk_lift hb21 bf.out)
    have hA1 := Lib.hid ((hA1.out.below hb21).mono hb21.size)
    have b9 := Lib.hid (blk_lift hb21 b9.out)
    have b11 := Lib.hid (blk_lift hb21 b11.out)
    have ch21 := (ch20).trans (hb21.mono (ch20).size)
    clear ch20
    clear hb21
    go_wp2_with fail
    refine (awake03 _).mono ?_
    rintro e w22 ⟨rfl, hb22⟩
    have hl := Lib.hid ((hl.out.below hb22).mono hb22.size)
    have hu := Lib.hid ((hu.out.below hb22).mono hb22.size)
    have hv' := Lib.hid ((hv'.out.below hb22).mono hb22.size)
    have hco := Lib.hid ((hco.out.below hb22).mono hb22.size)
    have b5 := Lib.hid (blk_lift hb22 b5.out)
    have bf := Lib.hid (blk_lift hb22 bf.out)
    have hA1 := Lib.hid ((hA1.out.below hb22).mono hb22.size)
    have b9 := Lib.hid (blk_lift hb22 b9.out)
    have b11 := Lib.hid (blk_lift hb22 b11.out)
    have ch22 := (ch21).trans (hb22.mono (ch21).size)
    clear ch21
    clear hb22
    go_wp2
    go_ret
    exact ⟨rfl, ch22⟩)

set_option maxRecDepth 100000 in
set_option maxHeartbeats 8000000 in
theorem law_RunSteps_vxbig {w : World} (v : Value) (l : List Ins) (hl : InsRow w w.heap.size v l) (t : Tr) (ht : t.size ≤ 2000000) (hs : (TS t).size ≤ 140737488355328) (hx : isTree (TS t) = true) (n : Int) (au : Option Addr) (LL cu : Nat) (L : List ByteArray) (HLL : Hid (L.length = LL)) (hn : i64 n) (hz : L.length ≤ 8796093022208) (hu : StrRow w w.heap.size (.slice au LL cu) L) (hv : validB l = true) (hf : fitsB n l.length L = true) (he : Hid (n ≠ l.length)) (hst : stepP l ⟨n.toNat, L.map toTr⟩ = none) :
    Calls Try.prog 15 #[v, .string (TS t), .agg #[.int .i64 n, .slice au LL cu]] w fun e w' => e = .returned (.bool true) ∧ Below w.heap.size w w' := by
    have hl := Lib.hid hl
    have hu := Lib.hid hu
    obtain ⟨W0, hW0⟩ : ∃ W0, w.alloc (.cells #[.int .i64 n, .slice au LL cu] 53) = W0 := ⟨_, rfl⟩
    have hq0 : Below w.heap.size w W0 := by rw [← hW0]; exact alloc_below _ _
    have b5 := Lib.hid (show W0.heap[w.heap.size]? = some (.cells #[.int .i64 n, .slice au LL cu] 53 (0, 0)) by rw [← hW0]; exact box2_new _ _ _ _)
    have hl := Lib.hid ((hl.out.below hq0).mono hq0.size)
    have hu := Lib.hid ((hu.out.below hq0).mono hq0.size)
    have HQ0 := Lib.hid hq0
    have e00 := box2 b5.out
    obtain ⟨e00, e01⟩ := e00
    clear hq0
    go_enter Try.func15, Try.ntmps15
    have kTw : Hid (∀ w', Below W0.heap.size W0 w' → Calls Try.prog 20 #[v] w' fun e w'' => ∃ v', e = .returned v' ∧ Hid (InsRow w'' w''.heap.size v' l) ∧ Hid (Below w'.heap.size w' w'') ∧ Below W0.heap.size W0 w'') := fun w' hb => (twin_any v l w' ((hl.out.below hb).mono hb.size)).mono fun e w'' ⟨v', h1, h2, h3⟩ => ⟨v', h1, h2, h3, hb.trans (h3.mono hb.size)⟩
    have kCo : Hid (∀ w', Below W0.heap.size W0 w' → Calls Try.prog 48 #[.agg #[.int .i64 n, .slice au LL cu]] w' fun e w'' => ∃ ac cc, e = .returned (.agg #[.int .i64 n, .slice ac LL cc]) ∧ Hid (StrRow w'' w''.heap.size (.slice ac LL cc) L) ∧ Hid (Below w'.heap.size w' w'') ∧ Below W0.heap.size W0 w'') := fun w' hb => by
      refine (copied_any n _ L hz w' ((hu.out.below hb).mono hb.size)).mono ?_
      rintro e w'' ⟨a, c, h1, h2, h3⟩
      rw [HLL.out] at h1 h2
      exact ⟨a, c, h1, h2, h3, hb.trans (h3.mono hb.size)⟩
    have KEEP := Lib.hid (box2_keep b5.out)
    go_wp2
    go_region_held3 (fun w' => w'.cell? ⟨w.heap.size, 0, none⟩ = some (.int .i64 n) ∧ w'.cell? ⟨w.heap.size, 1, none⟩ = some (.slice au LL cu))
      (with_reducible (first | exact KEEP.out _ (hzC.alloc hzC.size _) | exact KEEP.out _ (hzC.alloc hzC.size _).drew | exact KEEP.out _ hzC | exact KEEP.out _ hzC.drew | exact KEEP.out _ (hzT.alloc hzT.size _) | exact KEEP.out _ (hzT.alloc hzT.size _).drew | exact KEEP.out _ hzT | exact KEEP.out _ hzT.drew | exact KEEP.out _ (Below.refl _ _) | exact KEEP.out _ (Below.refl _ _).drew | exact KEEP.out _ (alloc_below _ _) | exact KEEP.out _ (alloc_below _ _).drew | (have hzS := hzC; have hzR := hzT; exact KEEP.out _ ((hzS.setCell (by first | exact hzR.size | exact Nat.le_refl _) _).setCell (by first | exact hzR.size | exact Nat.le_refl _) _)) | (have hzS := hzC; have hzR := hzT; exact KEEP.out _ ((hzS.setCell (by first | exact hzR.size | exact Nat.le_refl _) _).setCell (by first | exact hzR.size | exact Nat.le_refl _) _).drew) | fail "keep"))
      ((first
        | ((with_reducible refine (kTw.out _ (by first | exact Below.refl _ _ | exact (Below.refl _ _).drew | exact alloc_below _ _ | exact (alloc_below _ _).drew | exact (Below.refl _ _).drew.alloc (Nat.le_refl _) _)).mono ?_); rintro e wT ⟨v', rfl, hv', hlT, hzT⟩)
        | ((with_reducible refine (kCo.out _ (by first | exact hzT | exact hzT.alloc hzT.size _)).mono ?_); rintro e wC ⟨ac, cc, rfl, hco, hlC, hzC⟩; (first | (have hb8 := blk_lift hlC.out (box2_new wT _ _ _); obtain ⟨k80, k81, k82, k83⟩ := box4 hb8; have hb08 := Lib.hid hb8; clear hb8) | (have hb8 := blk_lift hlC.out (blk_lift_drew hlT.out (box2_new W0 _ _ _)); obtain ⟨k80, k81, k82, k83⟩ := box4 hb8; have hb08 := Lib.hid hb8; clear hb8) | (have hb8 := blk_lift hlC.out (blk_lift hlT.out (box2_new W0 _ _ _)); obtain ⟨k80, k81, k82, k83⟩ := box4 hb8; have hb08 := Lib.hid hb8; clear hb8) | skip))
        | (fail "arm")))
    all_goals (
    (first | (have BF := (BoxFin.set (W0 := W0) (A := wC) (.int .i64 n) (.slice ac LL cc) hb08.out (by intro s h; cases h) (by intro s h; cases h) (by first | exact Nat.le_refl _ | exact hzT.size))) | (have BF := (BoxFin.alloc (W0 := W0) (A := wC) 53 (.int .i64 n) (.slice ac LL cc) hzC.size)))
    refine BoxFin.elimW BF ?_
    clear BF
    intro w8 BF
    refine BoxFin.elimB BF.out ?_
    clear BF
    intro b8 BF
    have b5 := Lib.hid (BF.out.blk' (by rw [← hW0]; simp) (blk_lift hzC b5.out))
    have bf := Lib.hid BF.out.blk
    have hl := Lib.hid (BF.out.ins ((hl.out.below hzC).mono hzC.size))
    have hu := Lib.hid (BF.out.str ((hu.out.below hzC).mono hzC.size))
    have hv' := Lib.hid (BF.out.ins (by first | exact (hv'.out.below hlC.out).mono hlC.out.size | exact (((hv'.out.below (alloc_below _ _)).mono (alloc_below _ _).size).below hlC.out).mono hlC.out.size))
    have hco := Lib.hid (BF.out.str hco.out)
    have ch8 := HQ0.out.trans ((BF.out.below hzC).mono HQ0.out.size)
    clear BF HQ0 hzC hlC hlT hzT kTw kCo KEEP e00 e01
    try clear hb08 k80 k81 k82 k83
    go_wp2_with fail
    refine (first_at ht rfl hv hl.out).mono ?_
    rintro e w9 ⟨a1, c1, rfl, hA1, hb9⟩
    have hl := Lib.hid ((hl.out.below hb9).mono hb9.size)
    have hu := Lib.hid ((hu.out.below hb9).mono hb9.size)
    have hv' := Lib.hid ((hv'.out.below hb9).mono hb9.size)
    have hco := Lib.hid ((hco.out.below hb9).mono hb9.size)
    have b5 := Lib.hid (blk_lift hb9 b5.out)
    have bf := Lib.hid (blk_lift hb9 bf.out)
    have ch9 := (ch8).trans (hb9.mono (ch8).size)
    clear ch8
    clear hb9
    have hA1 := Lib.hid hA1
    have e1 := box2 (blk_lift (alloc_below w9 (.cells #[.int .i64 0, .slice a1 32 c1] 53)) b5.out)
    obtain ⟨e1a, e1b⟩ := e1
    go_wp2_with fail
    clear e1a e1b
    obtain ⟨w10, hW⟩ : ∃ B, w9.alloc (.cells #[.int .i64 0, .slice a1 32 c1] 53) = B := ⟨_, rfl⟩
    rw [hW]
    have hbB : Below w9.heap.size w9 w10 := by rw [← hW]; exact alloc_below _ _
    have b9 := Lib.hid (show w10.heap[w9.heap.size]? = some (.cells #[.int .i64 0, .slice a1 32 c1] 53 (0, 0)) by rw [← hW]; exact box2_new _ _ _ _)
    clear hW
    have hl := Lib.hid ((hl.out.below hbB).mono hbB.size)
    have hu := Lib.hid ((hu.out.below hbB).mono hbB.size)
    have hv' := Lib.hid ((hv'.out.below hbB).mono hbB.size)
    have hco := Lib.hid ((hco.out.below hbB).mono hbB.size)
    have b5 := Lib.hid (blk_lift hbB b5.out)
    have bf := Lib.hid (blk_lift hbB bf.out)
    have hA1 := Lib.hid ((hA1.out.below hbB).mono hbB.size)
    have ch10 := (ch9).trans (hbB.mono (ch9).size)
    clear ch9
    clear hbB
    refine (step_big_at hv hf he.out hst hl.out hu.out).mono ?_
    rintro e w11 ⟨rfl, hb11⟩
    have hl := Lib.hid ((hl.out.below hb11).mono hb11.size)
    have hu := Lib.hid ((hu.out.below hb11).mono hb11.size)
    have hv' := Lib.hid ((hv'.out.below hb11).mono hb11.size)
    have hco := Lib.hid ((hco.out.below hb11).mono hb11.size)
    have b5 := Lib.hid (blk_lift hb11 b5.out)
    have bf := Lib.hid (blk_lift hb11 bf.out)
    have hA1 := Lib.hid ((hA1.out.below hb11).mono hb11.size)
    have b9 := Lib.hid (blk_lift hb11 b9.out)
    have ch11 := (ch10).trans (hb11.mono (ch10).size)
    clear ch10
    clear hb11
    go_wp2_with fail
    obtain ⟨w12, hW⟩ : ∃ B, w11.alloc (.cells #[.int .i64 0, .slice none 0 0] 53) = B := ⟨_, rfl⟩
    rw [hW]
    have hbB : Below w11.heap.size w11 w12 := by rw [← hW]; exact alloc_below _ _
    have b11 := Lib.hid (show w12.heap[w11.heap.size]? = some (.cells #[.int .i64 0, .slice none 0 0] 53 (0, 0)) by rw [← hW]; exact box2_new _ _ _ _)
    clear hW
    have hl := Lib.hid ((hl.out.below hbB).mono hbB.size)
    have hu := Lib.hid ((hu.out.below hbB).mono hbB.size)
    have hv' := Lib.hid ((hv'.out.below hbB).mono hbB.size)
    have hco := Lib.hid ((hco.out.below hbB).mono hbB.size)
    have b5 := Lib.hid (blk_lift hbB b5.out)
    have bf := Lib.hid (blk_lift hbB bf.out)
    have hA1 := Lib.hid ((hA1.out.below hbB).mono hbB.size)
    have b9 := Lib.hid (blk_lift hbB b9.out)
    have ch12 := (ch11).trans (hbB.mono (ch11).size)
    clear ch11
    clear hbB
    refine (same_self hl.out hv'.out).mono ?_
    rintro e w13 ⟨rfl, hb13⟩
    have hl := Lib.hid ((hl.out.below hb13).mono hb13.size)
    have hu := Lib.hid ((hu.out.below hb13).mono hb13.size)
    have hv' := Lib.hid ((hv'.out.below hb13).mono hb13.size)
    have hco := Lib.hid ((hco.out.below hb13).mono hb13.size)
    have b5 := Lib.hid (blk_lift hb13 b5.out)
    have bf := Lib.hid (blk_lift hb13 bf.out)
    have hA1 := Lib.hid ((hA1.out.below hb13).mono hb13.size)
    have b9 := Lib.hid (blk_lift hb13 b9.out)
    have b11 := Lib.hid (blk_lift hb13 b11.out)
    have ch13 := (ch12).trans (hb13.mono (ch12).size)
    clear ch12
    clear hb13
    have e1 := box2 b5.out
    obtain ⟨e1a, e1b⟩ := e1
    have e2 := box2 bf.out
    obtain ⟨e2a, e2b⟩ := e2
    go_wp2_with fail
    clear e1a e1b
    clear e2a e2b
    refine (sameState_at rfl rfl hu.out hco.out).mono ?_
    rintro e w14 ⟨rfl, hb14⟩
    have hl := Lib.hid ((hl.out.below hb14).mono hb14.size)
    have hu := Lib.hid ((hu.out.below hb14).mono hb14.size)
    have hv' := Lib.hid ((hv'.out.below hb14).mono hb14.size)
    have hco := Lib.hid ((hco.out.below hb14).mono hb14.size)
    have b5 := Lib.hid (blk_lift hb14 b5.out)
    have bf := Lib.hid (blk_lift hb14 bf.out)
    have hA1 := Lib.hid ((hA1.out.below hb14).mono hb14.size)
    have b9 := Lib.hid (blk_lift hb14 b9.out)
    have b11 := Lib.hid (blk_lift hb14 b11.out)
    have ch14 := (ch13).trans (hb14.mono (ch13).size)
    clear ch13
    clear hb14
    go_wp2_with fail
    refine (cvalid_at true hv hl.out).mono ?_
    rintro e w15 ⟨rfl, hb15⟩
    have hl := Lib.hid ((hl.out.below hb15).mono hb15.size)
    have hu := Lib.hid ((hu.out.below hb15).mono hb15.size)
    have hv' := Lib.hid ((hv'.out.below hb15).mono hb15.size)
    have hco := Lib.hid ((hco.out.below hb15).mono hb15.size)
    have b5 := Lib.hid (blk_lift hb15 b5.out)
    have bf := Lib.hid (blk_lift hb15 bf.out)
    have hA1 := Lib.hid ((hA1.out.below hb15).mono hb15.size)
    have b9 := Lib.hid (blk_lift hb15 b9.out)
    have b11 := Lib.hid (blk_lift hb15 b11.out)
    have ch15 := (ch14).trans (hb15.mono (ch14).size)
    clear ch14
    clear hb15
    go_wp2_with fail
    refine (tvalid_at _ hs true hx _).mono ?_
    rintro e w16 ⟨rfl, hb16⟩
    have hl := Lib.hid ((hl.out.below hb16).mono hb16.size)
    have hu := Lib.hid ((hu.out.below hb16).mono hb16.size)
    have hv' := Lib.hid ((hv'.out.below hb16).mono hb16.size)
    have hco := Lib.hid ((hco.out.below hb16).mono hb16.size)
    have b5 := Lib.hid (blk_lift hb16 b5.out)
    have bf := Lib.hid (blk_lift hb16 bf.out)
    have hA1 := Lib.hid ((hA1.out.below hb16).mono hb16.size)
    have b9 := Lib.hid (blk_lift hb16 b9.out)
    have b11 := Lib.hid (blk_lift hb16 b11.out)
    have ch16 := (ch15).trans (hb16.mono (ch15).size)
    clear ch15
    clear hb16
    have KEEP := Lib.hid (box2_keep b9.out)
    have kR := Lib.hid (read_hid (w := w16) ht)
    have kF := Lib.hid (rfirst_hid (w := w16) (t := t))
    have kT := Lib.hid (rtext_hid (w := w16) 0 rfl (Good.start 0 t ht))
    have kS := Lib.hid (sameState_hid (w := w16) (n := 0) hA1.out)
    go_wp2
    go_region_held3 (fun w' => w'.cell? ⟨w9.heap.size, 0, none⟩ = some (.int .i64 0) ∧ w'.cell? ⟨w9.heap.size, 1, none⟩ = some (.slice a1 32 c1))
      (with_reducible (first | exact KEEP.out _ (hzd.alloc hzd.size _) | exact KEEP.out _ (hzd.alloc hzd.size _).drew | exact KEEP.out _ hzd | exact KEEP.out _ hzd.drew | exact KEEP.out _ (hzc.alloc hzc.size _) | exact KEEP.out _ (hzc.alloc hzc.size _).drew | exact KEEP.out _ hzc | exact KEEP.out _ hzc.drew | exact KEEP.out _ (hzb.alloc hzb.size _) | exact KEEP.out _ (hzb.alloc hzb.size _).drew | exact KEEP.out _ hzb | exact KEEP.out _ hzb.drew | exact KEEP.out _ (hza.alloc hza.size _) | exact KEEP.out _ (hza.alloc hza.size _).drew | exact KEEP.out _ hza | exact KEEP.out _ hza.drew | exact KEEP.out _ (Below.refl _ _) | exact KEEP.out _ (Below.refl _ _).drew | exact KEEP.out _ (alloc_below _ _) | exact KEEP.out _ (alloc_below _ _).drew | fail "keep"))
      ((first
        | ((with_reducible refine (kR.out _ (by first | exact Below.refl _ _ | exact (Below.refl _ _).drew)).mono ?_); rintro e wa ⟨q, rfl, hq, hza⟩)
        | ((with_reducible refine (kF.out _ q hq.out hza).mono ?_); rintro e wb ⟨gs1, rfl, hs1, hzb⟩)
        | ((with_reducible refine (kT.out _ gs1 (by obtain ⟨T, gr, ps, h⟩ := hs1.out; exact ⟨T, gr, 32, ps, h⟩) hzb).mono ?_); rintro e wc ⟨x1, rfl, hx1, hzc⟩)
        | ((with_reducible refine (kS.out _ x1 hx1.out hzc).mono ?_); rintro e w17 ⟨rfl, hzd⟩)
        | (fail "arm")))
    have hl := Lib.hid ((hl.out.below hzd).mono hzd.size)
    have hu := Lib.hid ((hu.out.below hzd).mono hzd.size)
    have hv' := Lib.hid ((hv'.out.below hzd).mono hzd.size)
    have hco := Lib.hid ((hco.out.below hzd).mono hzd.size)
    have b5 := Lib.hid (blk_lift hzd b5.out)
    have bf := Lib.hid (blk_lift hzd bf.out)
    have hA1 := Lib.hid ((hA1.out.below hzd).mono hzd.size)
    have b9 := Lib.hid (blk_lift hzd b9.out)
    have b11 := Lib.hid (blk_lift hzd b11.out)
    have ch17 := (ch16).trans (hzd.mono (ch16).size)
    clear ch16
    clear kR kF kT kS KEEP hzd
    have e1 := box2 b5.out
    obtain ⟨e1a, e1b⟩ := e1
    go_wp2_with fail
    clear e1a e1b
    refine (fits3_at true hf hn hl.out hu.out).mono ?_
    rintro e w18 ⟨rfl, hb18⟩
    have hl := Lib.hid ((hl.out.below hb18).mono hb18.size)
    have hu := Lib.hid ((hu.out.below hb18).mono hb18.size)
    have hv' := Lib.hid ((hv'.out.below hb18).mono hb18.size)
    have hco := Lib.hid ((hco.out.below hb18).mono hb18.size)
    have b5 := Lib.hid (blk_lift hb18 b5.out)
    have bf := Lib.hid (blk_lift hb18 bf.out)
    have hA1 := Lib.hid ((hA1.out.below hb18).mono hb18.size)
    have b9 := Lib.hid (blk_lift hb18 b9.out)
    have b11 := Lib.hid (blk_lift hb18 b11.out)
    have ch18 := (ch17).trans (hb18.mono (ch17).size)
    clear ch17
    clear hb18
    have KEEP := Lib.hid (box2_keep b5.out)
    have kL := Lib.hid (load_hid (w := w18) hl.out hv)
    have kD := Lib.hid (rread_hid (w := w18) hf hu.out (l := l) (v := v))
    go_wp2
    go_region_held3 (fun w' => w'.cell? ⟨w.heap.size, 0, none⟩ = some (.int .i64 n) ∧ w'.cell? ⟨w.heap.size, 1, none⟩ = some (.slice au LL cu))
      (with_reducible (first | exact KEEP.out _ (hzd.alloc hzd.size _) | exact KEEP.out _ (hzd.alloc hzd.size _).drew | exact KEEP.out _ hzd | exact KEEP.out _ hzd.drew | exact KEEP.out _ (hza.alloc hza.size _) | exact KEEP.out _ (hza.alloc hza.size _).drew | exact KEEP.out _ hza | exact KEEP.out _ hza.drew | exact KEEP.out _ (Below.refl _ _) | exact KEEP.out _ (Below.refl _ _).drew | exact KEEP.out _ (alloc_below _ _) | exact KEEP.out _ (alloc_below _ _).drew | fail "keep"))
      ((first
        | ((with_reducible refine (kL.out _ (by first | exact Below.refl _ _ | exact (Below.refl _ _).drew)).mono ?_); rintro e wa ⟨gm, tv, rfl, hm, hza⟩)
        | ((with_reducible refine (kD.out _ gm tv hm.out hza).mono ?_); rintro e w19 ⟨gs, rfl, hbo, hzd⟩)
        | (fail "arm")))
    have hzD := hzd
    have b11R := b11
    have chR := ch18
    have hl := Lib.hid ((hl.out.below hzd).mono hzd.size)
    have hu := Lib.hid ((hu.out.below hzd).mono hzd.size)
    have hv' := Lib.hid ((hv'.out.below hzd).mono hzd.size)
    have hco := Lib.hid ((hco.out.below hzd).mono hzd.size)
    have b5 := Lib.hid (blk_lift hzd b5.out)
    have bf := Lib.hid (blk_lift hzd bf.out)
    have hA1 := Lib.hid ((hA1.out.below hzd).mono hzd.size)
    have b9 := Lib.hid (blk_lift hzd b9.out)
    have b11 := Lib.hid (blk_lift hzd b11.out)
    have ch19 := (ch18).trans (hzd.mono (ch18).size)
    clear ch18
    clear kL kD KEEP hzd
    obtain ⟨T, hT, hbo⟩ := hbo.out
    have hT : w18.heap.size ≤ T := hT
    go_wp2_with fail
    refine (ended_at3 false (by have h1 := he.out; have h2 := (fitsB_iff hf).1; show (((n.toNat : Nat) : Int) == (l.length : Int)) = _; simp; omega) hbo).mono ?_
    rintro e w20 ⟨rfl, hbo2, hb20⟩
    have hzE := hb20
    have hl := Lib.hid ((hl.out.below hb20).mono hb20.size)
    have hu := Lib.hid ((hu.out.below hb20).mono hb20.size)
    have hv' := Lib.hid ((hv'.out.below hb20).mono hb20.size)
    have hco := Lib.hid ((hco.out.below hb20).mono hb20.size)
    have b5 := Lib.hid (blk_lift hb20 b5.out)
    have bf := Lib.hid (blk_lift hb20 bf.out)
    have hA1 := Lib.hid ((hA1.out.below hb20).mono hb20.size)
    have b9 := Lib.hid (blk_lift hb20 b9.out)
    have b11 := Lib.hid (blk_lift hb20 b11.out)
    have ch20 := (ch19).trans (hb20.mono (ch19).size)
    clear ch19
    clear hb20
    go_wp2_with fail
    refine (rstepNo_at3 (B := T) hbo2.out (Nat.le_refl _) (fit_good hf) hv (by have := he.out; have := (fitsB_iff hf).1; show n.toNat ≠ l.length; omega) hst).mono ?_
    rintro e w21 ⟨rfl, hbT⟩
    have hbA : Below w18.heap.size w18 w21 := (hzD.trans (hzE.mono hzD.size)).trans (hbT.mono hT)
    clear hzD hzE
    have b11 := b11R
    have b11 := Lib.hid (blk_lift hbA b11.out)
    have ch21 := (chR).trans (hbA.mono (chR).size)
    clear chR
    clear hbA
    have e1 := box2 b11.out
    obtain ⟨e1a, e1b⟩ := e1
    go_wp2_with fail
    clear e1a e1b
    refine (none0_at _).mono ?_
    rintro e w22 ⟨rfl, hb22⟩
    have b11 := Lib.hid (blk_lift hb22 b11.out)
    have ch22 := (ch21).trans (hb22.mono (ch21).size)
    clear ch21
    clear hb22
    go_wp2_with fail
    refine (awake03 _).mono ?_
    rintro e w23 ⟨rfl, hb23⟩
    have b11 := Lib.hid (blk_lift hb23 b11.out)
    have ch23 := (ch22).trans (hb23.mono (ch22).size)
    clear ch22
    clear hb23
    go_wp2
    go_ret
    exact ⟨rfl, ch23⟩)

set_option maxRecDepth 100000 in
set_option maxHeartbeats 8000000 in
theorem law_RunSteps_vxok {w : World} (v : Value) (l : List Ins) (hl : InsRow w w.heap.size v l) (t : Tr) (ht : t.size ≤ 2000000) (hs : (TS t).size ≤ 140737488355328) (hx : isTree (TS t) = true) (n : Int) (au : Option Addr) (LL cu : Nat) (L : List ByteArray) (HLL : Hid (L.length = LL)) (hn : i64 n) (hz : L.length ≤ 8796093022208) (hu : StrRow w w.heap.size (.slice au LL cu) L) (hv : validB l = true) (hf : fitsB n l.length L = true) (he : Hid (n ≠ l.length)) (s' : St) (hg : Good l.length s') (hst : stepP l ⟨n.toNat, L.map toTr⟩ = some s') :
    Calls Try.prog 15 #[v, .string (TS t), .agg #[.int .i64 n, .slice au LL cu]] w fun e w' => e = .returned (.bool true) ∧ Below w.heap.size w w' := by
    have hl := Lib.hid hl
    have hu := Lib.hid hu
    obtain ⟨W0, hW0⟩ : ∃ W0, w.alloc (.cells #[.int .i64 n, .slice au LL cu] 53) = W0 := ⟨_, rfl⟩
    have hq0 : Below w.heap.size w W0 := by rw [← hW0]; exact alloc_below _ _
    have b5 := Lib.hid (show W0.heap[w.heap.size]? = some (.cells #[.int .i64 n, .slice au LL cu] 53 (0, 0)) by rw [← hW0]; exact box2_new _ _ _ _)
    have hl := Lib.hid ((hl.out.below hq0).mono hq0.size)
    have hu := Lib.hid ((hu.out.below hq0).mono hq0.size)
    have HQ0 := Lib.hid hq0
    have e00 := box2 b5.out
    obtain ⟨e00, e01⟩ := e00
    clear hq0
    go_enter Try.func15, Try.ntmps15
    have kTw : Hid (∀ w', Below W0.heap.size W0 w' → Calls Try.prog 20 #[v] w' fun e w'' => ∃ v', e = .returned v' ∧ Hid (InsRow w'' w''.heap.size v' l) ∧ Hid (Below w'.heap.size w' w'') ∧ Below W0.heap.size W0 w'') := fun w' hb => (twin_any v l w' ((hl.out.below hb).mono hb.size)).mono fun e w'' ⟨v', h1, h2, h3⟩ => ⟨v', h1, h2, h3, hb.trans (h3.mono hb.size)⟩
    have kCo : Hid (∀ w', Below W0.heap.size W0 w' → Calls Try.prog 48 #[.agg #[.int .i64 n, .slice au LL cu]] w' fun e w'' => ∃ ac cc, e = .returned (.agg #[.int .i64 n, .slice ac LL cc]) ∧ Hid (StrRow w'' w''.heap.size (.slice ac LL cc) L) ∧ Hid (Below w'.heap.size w' w'') ∧ Below W0.heap.size W0 w'') := fun w' hb => by
      refine (copied_any n _ L hz w' ((hu.out.below hb).mono hb.size)).mono ?_
      rintro e w'' ⟨a, c, h1, h2, h3⟩
      rw [HLL.out] at h1 h2
      exact ⟨a, c, h1, h2, h3, hb.trans (h3.mono hb.size)⟩
    have KEEP := Lib.hid (box2_keep b5.out)
    go_wp2
    go_region_held3 (fun w' => w'.cell? ⟨w.heap.size, 0, none⟩ = some (.int .i64 n) ∧ w'.cell? ⟨w.heap.size, 1, none⟩ = some (.slice au LL cu))
      (with_reducible (first | exact KEEP.out _ (hzC.alloc hzC.size _) | exact KEEP.out _ (hzC.alloc hzC.size _).drew | exact KEEP.out _ hzC | exact KEEP.out _ hzC.drew | exact KEEP.out _ (hzT.alloc hzT.size _) | exact KEEP.out _ (hzT.alloc hzT.size _).drew | exact KEEP.out _ hzT | exact KEEP.out _ hzT.drew | exact KEEP.out _ (Below.refl _ _) | exact KEEP.out _ (Below.refl _ _).drew | exact KEEP.out _ (alloc_below _ _) | exact KEEP.out _ (alloc_below _ _).drew | (have hzS := hzC; have hzR := hzT; exact KEEP.out _ ((hzS.setCell (by first | exact hzR.size | exact Nat.le_refl _) _).setCell (by first | exact hzR.size | exact Nat.le_refl _) _)) | (have hzS := hzC; have hzR := hzT; exact KEEP.out _ ((hzS.setCell (by first | exact hzR.size | exact Nat.le_refl _) _).setCell (by first | exact hzR.size | exact Nat.le_refl _) _).drew) | fail "keep"))
      ((first
        | ((with_reducible refine (kTw.out _ (by first | exact Below.refl _ _ | exact (Below.refl _ _).drew | exact alloc_below _ _ | exact (alloc_below _ _).drew | exact (Below.refl _ _).drew.alloc (Nat.le_refl _) _)).mono ?_); rintro e wT ⟨v', rfl, hv', hlT, hzT⟩)
        | ((with_reducible refine (kCo.out _ (by first | exact hzT | exact hzT.alloc hzT.size _)).mono ?_); rintro e wC ⟨ac, cc, rfl, hco, hlC, hzC⟩; (first | (have hb8 := blk_lift hlC.out (box2_new wT _ _ _); obtain ⟨k80, k81, k82, k83⟩ := box4 hb8; have hb08 := Lib.hid hb8; clear hb8) | (have hb8 := blk_lift hlC.out (blk_lift_drew hlT.out (box2_new W0 _ _ _)); obtain ⟨k80, k81, k82, k83⟩ := box4 hb8; have hb08 := Lib.hid hb8; clear hb8) | (have hb8 := blk_lift hlC.out (blk_lift hlT.out (box2_new W0 _ _ _)); obtain ⟨k80, k81, k82, k83⟩ := box4 hb8; have hb08 := Lib.hid hb8; clear hb8) | skip))
        | (fail "arm")))
    all_goals (
    (first | (have BF := (BoxFin.set (W0 := W0) (A := wC) (.int .i64 n) (.slice ac LL cc) hb08.out (by intro s h; cases h) (by intro s h; cases h) (by first | exact Nat.le_refl _ | exact hzT.size))) | (have BF := (BoxFin.alloc (W0 := W0) (A := wC) 53 (.int .i64 n) (.slice ac LL cc) hzC.size)))
    refine BoxFin.elimW BF ?_
    clear BF
    intro w8 BF
    refine BoxFin.elimB BF.out ?_
    clear BF
    intro b8 BF
    have b5 := Lib.hid (BF.out.blk' (by rw [← hW0]; simp) (blk_lift hzC b5.out))
    have bf := Lib.hid BF.out.blk
    have hl := Lib.hid (BF.out.ins ((hl.out.below hzC).mono hzC.size))
    have hu := Lib.hid (BF.out.str ((hu.out.below hzC).mono hzC.size))
    have hv' := Lib.hid (BF.out.ins (by first | exact (hv'.out.below hlC.out).mono hlC.out.size | exact (((hv'.out.below (alloc_below _ _)).mono (alloc_below _ _).size).below hlC.out).mono hlC.out.size))
    have hco := Lib.hid (BF.out.str hco.out)
    have ch8 := HQ0.out.trans ((BF.out.below hzC).mono HQ0.out.size)
    clear BF HQ0 hzC hlC hlT hzT kTw kCo KEEP e00 e01
    try clear hb08 k80 k81 k82 k83
    go_wp2_with fail
    refine (first_at ht rfl hv hl.out).mono ?_
    rintro e w9 ⟨a1, c1, rfl, hA1, hb9⟩
    have hl := Lib.hid ((hl.out.below hb9).mono hb9.size)
    have hu := Lib.hid ((hu.out.below hb9).mono hb9.size)
    have hv' := Lib.hid ((hv'.out.below hb9).mono hb9.size)
    have hco := Lib.hid ((hco.out.below hb9).mono hb9.size)
    have b5 := Lib.hid (blk_lift hb9 b5.out)
    have bf := Lib.hid (blk_lift hb9 bf.out)
    have ch9 := (ch8).trans (hb9.mono (ch8).size)
    clear ch8
    clear hb9
    have hA1 := Lib.hid hA1
    have e1 := box2 (blk_lift (alloc_below w9 (.cells #[.int .i64 0, .slice a1 32 c1] 53)) b5.out)
    obtain ⟨e1a, e1b⟩ := e1
    go_wp2_with fail
    clear e1a e1b
    obtain ⟨w10, hW⟩ : ∃ B, w9.alloc (.cells #[.int .i64 0, .slice a1 32 c1] 53) = B := ⟨_, rfl⟩
    rw [hW]
    have hbB : Below w9.heap.size w9 w10 := by rw [← hW]; exact alloc_below _ _
    have b9 := Lib.hid (show w10.heap[w9.heap.size]? = some (.cells #[.int .i64 0, .slice a1 32 c1] 53 (0, 0)) by rw [← hW]; exact box2_new _ _ _ _)
    clear hW
    have hl := Lib.hid ((hl.out.below hbB).mono hbB.size)
    have hu := Lib.hid ((hu.out.below hbB).mono hbB.size)
    have hv' := Lib.hid ((hv'.out.below hbB).mono hbB.size)
    have hco := Lib.hid ((hco.out.below hbB).mono hbB.size)
    have b5 := Lib.hid (blk_lift hbB b5.out)
    have bf := Lib.hid (blk_lift hbB bf.out)
    have hA1 := Lib.hid ((hA1.out.below hbB).mono hbB.size)
    have ch10 := (ch9).trans (hbB.mono (ch9).size)
    clear ch9
    clear hbB
    refine (step_ok_at hv hf he.out hg.2.1 hst hl.out hu.out).mono ?_
    rintro e w11 ⟨a2, c2, rfl, hA2, hb11⟩
    have hl := Lib.hid ((hl.out.below hb11).mono hb11.size)
    have hu := Lib.hid ((hu.out.below hb11).mono hb11.size)
    have hv' := Lib.hid ((hv'.out.below hb11).mono hb11.size)
    have hco := Lib.hid ((hco.out.below hb11).mono hb11.size)
    have b5 := Lib.hid (blk_lift hb11 b5.out)
    have bf := Lib.hid (blk_lift hb11 bf.out)
    have hA1 := Lib.hid ((hA1.out.below hb11).mono hb11.size)
    have b9 := Lib.hid (blk_lift hb11 b9.out)
    have ch11 := (ch10).trans (hb11.mono (ch10).size)
    clear ch10
    clear hb11
    have hA2 := Lib.hid hA2
    go_wp2_with fail
    obtain ⟨w12, hW⟩ : ∃ B, w11.alloc (.cells #[.int .i64 s'.pos, .slice a2 32 c2] 53) = B := ⟨_, rfl⟩
    rw [hW]
    have hbB : Below w11.heap.size w11 w12 := by rw [← hW]; exact alloc_below _ _
    have b11 := Lib.hid (show w12.heap[w11.heap.size]? = some (.cells #[.int .i64 s'.pos, .slice a2 32 c2] 53 (0, 0)) by rw [← hW]; exact box2_new _ _ _ _)
    clear hW
    have hl := Lib.hid ((hl.out.below hbB).mono hbB.size)
    have hu := Lib.hid ((hu.out.below hbB).mono hbB.size)
    have hv' := Lib.hid ((hv'.out.below hbB).mono hbB.size)
    have hco := Lib.hid ((hco.out.below hbB).mono hbB.size)
    have b5 := Lib.hid (blk_lift hbB b5.out)
    have bf := Lib.hid (blk_lift hbB bf.out)
    have hA1 := Lib.hid ((hA1.out.below hbB).mono hbB.size)
    have b9 := Lib.hid (blk_lift hbB b9.out)
    have hA2 := Lib.hid ((hA2.out.below hbB).mono hbB.size)
    have ch12 := (ch11).trans (hbB.mono (ch11).size)
    clear ch11
    clear hbB
    refine (same_self hl.out hv'.out).mono ?_
    rintro e w13 ⟨rfl, hb13⟩
    have hl := Lib.hid ((hl.out.below hb13).mono hb13.size)
    have hu := Lib.hid ((hu.out.below hb13).mono hb13.size)
    have hv' := Lib.hid ((hv'.out.below hb13).mono hb13.size)
    have hco := Lib.hid ((hco.out.below hb13).mono hb13.size)
    have b5 := Lib.hid (blk_lift hb13 b5.out)
    have bf := Lib.hid (blk_lift hb13 bf.out)
    have hA1 := Lib.hid ((hA1.out.below hb13).mono hb13.size)
    have b9 := Lib.hid (blk_lift hb13 b9.out)
    have hA2 := Lib.hid ((hA2.out.below hb13).mono hb13.size)
    have b11 := Lib.hid (blk_lift hb13 b11.out)
    have ch13 := (ch12).trans (hb13.mono (ch12).size)
    clear ch12
    clear hb13
    have e1 := box2 b5.out
    obtain ⟨e1a, e1b⟩ := e1
    have e2 := box2 bf.out
    obtain ⟨e2a, e2b⟩ := e2
    go_wp2_with fail
    clear e1a e1b
    clear e2a e2b
    refine (sameState_at rfl rfl hu.out hco.out).mono ?_
    rintro e w14 ⟨rfl, hb14⟩
    have hl := Lib.hid ((hl.out.below hb14).mono hb14.size)
    have hu := Lib.hid ((hu.out.below hb14).mono hb14.size)
    have hv' := Lib.hid ((hv'.out.below hb14).mono hb14.size)
    have hco := Lib.hid ((hco.out.below hb14).mono hb14.size)
    have b5 := Lib.hid (blk_lift hb14 b5.out)
    have bf := Lib.hid (blk_lift hb14 bf.out)
    have hA1 := Lib.hid ((hA1.out.below hb14).mono hb14.size)
    have b9 := Lib.hid (blk_lift hb14 b9.out)
    have hA2 := Lib.hid ((hA2.out.below hb14).mono hb14.size)
    have b11 := Lib.hid (blk_lift hb14 b11.out)
    have ch14 := (ch13).trans (hb14.mono (ch13).size)
    clear ch13
    clear hb14
    go_wp2_with fail
    refine (cvalid_at true hv hl.out).mono ?_
    rintro e w15 ⟨rfl, hb15⟩
    have hl := Lib.hid ((hl.out.below hb15).mono hb15.size)
    have hu := Lib.hid ((hu.out.below hb15).mono hb15.size)
    have hv' := Lib.hid ((hv'.out.below hb15).mono hb15.size)
    have hco := Lib.hid ((hco.out.below hb15).mono hb15.size)
    have b5 := Lib.hid (blk_lift hb15 b5.out)
    have bf := Lib.hid (blk_lift hb15 bf.out)
    have hA1 := Lib.hid ((hA1.out.below hb15).mono hb15.size)
    have b9 := Lib.hid (blk_lift hb15 b9.out)
    have hA2 := Lib.hid ((hA2.out.below hb15).mono hb15.size)
    have b11 := Lib.hid (blk_lift hb15 b11.out)
    have ch15 := (ch14).trans (hb15.mono (ch14).size)
    clear ch14
    clear hb15
    go_wp2_with fail
    refine (tvalid_at _ hs true hx _).mono ?_
    rintro e w16 ⟨rfl, hb16⟩
    have hl := Lib.hid ((hl.out.below hb16).mono hb16.size)
    have hu := Lib.hid ((hu.out.below hb16).mono hb16.size)
    have hv' := Lib.hid ((hv'.out.below hb16).mono hb16.size)
    have hco := Lib.hid ((hco.out.below hb16).mono hb16.size)
    have b5 := Lib.hid (blk_lift hb16 b5.out)
    have bf := Lib.hid (blk_lift hb16 bf.out)
    have hA1 := Lib.hid ((hA1.out.below hb16).mono hb16.size)
    have b9 := Lib.hid (blk_lift hb16 b9.out)
    have hA2 := Lib.hid ((hA2.out.below hb16).mono hb16.size)
    have b11 := Lib.hid (blk_lift hb16 b11.out)
    have ch16 := (ch15).trans (hb16.mono (ch15).size)
    clear ch15
    clear hb16
    have KEEP := Lib.hid (box2_keep b9.out)
    have kR := Lib.hid (read_hid (w := w16) ht)
    have kF := Lib.hid (rfirst_hid (w := w16) (t := t))
    have kT := Lib.hid (rtext_hid (w := w16) 0 rfl (Good.start 0 t ht))
    have kS := Lib.hid (sameState_hid (w := w16) (n := 0) hA1.out)
    go_wp2
    go_region_held3 (fun w' => w'.cell? ⟨w9.heap.size, 0, none⟩ = some (.int .i64 0) ∧ w'.cell? ⟨w9.heap.size, 1, none⟩ = some (.slice a1 32 c1))
      (with_reducible (first | exact KEEP.out _ (hzd.alloc hzd.size _) | exact KEEP.out _ (hzd.alloc hzd.size _).drew | exact KEEP.out _ hzd | exact KEEP.out _ hzd.drew | exact KEEP.out _ (hzc.alloc hzc.size _) | exact KEEP.out _ (hzc.alloc hzc.size _).drew | exact KEEP.out _ hzc | exact KEEP.out _ hzc.drew | exact KEEP.out _ (hzb.alloc hzb.size _) | exact KEEP.out _ (hzb.alloc hzb.size _).drew | exact KEEP.out _ hzb | exact KEEP.out _ hzb.drew | exact KEEP.out _ (hza.alloc hza.size _) | exact KEEP.out _ (hza.alloc hza.size _).drew | exact KEEP.out _ hza | exact KEEP.out _ hza.drew | exact KEEP.out _ (Below.refl _ _) | exact KEEP.out _ (Below.refl _ _).drew | exact KEEP.out _ (alloc_below _ _) | exact KEEP.out _ (alloc_below _ _).drew | fail "keep"))
      ((first
        | ((with_reducible refine (kR.out _ (by first | exact Below.refl _ _ | exact (Below.refl _ _).drew)).mono ?_); rintro e wa ⟨q, rfl, hq, hza⟩)
        | ((with_reducible refine (kF.out _ q hq.out hza).mono ?_); rintro e wb ⟨gs1, rfl, hs1, hzb⟩)
        | ((with_reducible refine (kT.out _ gs1 (by obtain ⟨T, gr, ps, h⟩ := hs1.out; exact ⟨T, gr, 32, ps, h⟩) hzb).mono ?_); rintro e wc ⟨x1, rfl, hx1, hzc⟩)
        | ((with_reducible refine (kS.out _ x1 hx1.out hzc).mono ?_); rintro e w17 ⟨rfl, hzd⟩)
        | (fail "arm")))
    have hl := Lib.hid ((hl.out.below hzd).mono hzd.size)
    have hu := Lib.hid ((hu.out.below hzd).mono hzd.size)
    have hv' := Lib.hid ((hv'.out.below hzd).mono hzd.size)
    have hco := Lib.hid ((hco.out.below hzd).mono hzd.size)
    have b5 := Lib.hid (blk_lift hzd b5.out)
    have bf := Lib.hid (blk_lift hzd bf.out)
    have hA1 := Lib.hid ((hA1.out.below hzd).mono hzd.size)
    have b9 := Lib.hid (blk_lift hzd b9.out)
    have hA2 := Lib.hid ((hA2.out.below hzd).mono hzd.size)
    have b11 := Lib.hid (blk_lift hzd b11.out)
    have ch17 := (ch16).trans (hzd.mono (ch16).size)
    clear ch16
    clear kR kF kT kS KEEP hzd
    have e1 := box2 b5.out
    obtain ⟨e1a, e1b⟩ := e1
    go_wp2_with fail
    clear e1a e1b
    refine (fits3_at true hf hn hl.out hu.out).mono ?_
    rintro e w18 ⟨rfl, hb18⟩
    have hl := Lib.hid ((hl.out.below hb18).mono hb18.size)
    have hu := Lib.hid ((hu.out.below hb18).mono hb18.size)
    have hv' := Lib.hid ((hv'.out.below hb18).mono hb18.size)
    have hco := Lib.hid ((hco.out.below hb18).mono hb18.size)
    have b5 := Lib.hid (blk_lift hb18 b5.out)
    have bf := Lib.hid (blk_lift hb18 bf.out)
    have hA1 := Lib.hid ((hA1.out.below hb18).mono hb18.size)
    have b9 := Lib.hid (blk_lift hb18 b9.out)
    have hA2 := Lib.hid ((hA2.out.below hb18).mono hb18.size)
    have b11 := Lib.hid (blk_lift hb18 b11.out)
    have ch18 := (ch17).trans (hb18.mono (ch17).size)
    clear ch17
    clear hb18
    have KEEP := Lib.hid (box2_keep b5.out)
    have kL := Lib.hid (load_hid (w := w18) hl.out hv)
    have kD := Lib.hid (rread_hid (w := w18) hf hu.out (l := l) (v := v))
    go_wp2
    go_region_held3 (fun w' => w'.cell? ⟨w.heap.size, 0, none⟩ = some (.int .i64 n) ∧ w'.cell? ⟨w.heap.size, 1, none⟩ = some (.slice au LL cu))
      (with_reducible (first | exact KEEP.out _ (hzd.alloc hzd.size _) | exact KEEP.out _ (hzd.alloc hzd.size _).drew | exact KEEP.out _ hzd | exact KEEP.out _ hzd.drew | exact KEEP.out _ (hza.alloc hza.size _) | exact KEEP.out _ (hza.alloc hza.size _).drew | exact KEEP.out _ hza | exact KEEP.out _ hza.drew | exact KEEP.out _ (Below.refl _ _) | exact KEEP.out _ (Below.refl _ _).drew | exact KEEP.out _ (alloc_below _ _) | exact KEEP.out _ (alloc_below _ _).drew | fail "keep"))
      ((first
        | ((with_reducible refine (kL.out _ (by first | exact Below.refl _ _ | exact (Below.refl _ _).drew)).mono ?_); rintro e wa ⟨gm, tv, rfl, hm, hza⟩)
        | ((with_reducible refine (kD.out _ gm tv hm.out hza).mono ?_); rintro e w19 ⟨gs, rfl, hbo, hzd⟩)
        | (fail "arm")))
    have hzD := hzd
    have b11R := b11
    have chR := ch18
    have hA2R := hA2
    have hl := Lib.hid ((hl.out.below hzd).mono hzd.size)
    have hu := Lib.hid ((hu.out.below hzd).mono hzd.size)
    have hv' := Lib.hid ((hv'.out.below hzd).mono hzd.size)
    have hco := Lib.hid ((hco.out.below hzd).mono hzd.size)
    have b5 := Lib.hid (blk_lift hzd b5.out)
    have bf := Lib.hid (blk_lift hzd bf.out)
    have hA1 := Lib.hid ((hA1.out.below hzd).mono hzd.size)
    have b9 := Lib.hid (blk_lift hzd b9.out)
    have hA2 := Lib.hid ((hA2.out.below hzd).mono hzd.size)
    have b11 := Lib.hid (blk_lift hzd b11.out)
    have ch19 := (ch18).trans (hzd.mono (ch18).size)
    clear ch18
    clear kL kD KEEP hzd
    obtain ⟨T, hT, hbo⟩ := hbo.out
    have hT : w18.heap.size ≤ T := hT
    go_wp2_with fail
    refine (ended_at3 false (by have h1 := he.out; have h2 := (fitsB_iff hf).1; show (((n.toNat : Nat) : Int) == (l.length : Int)) = _; simp; omega) hbo).mono ?_
    rintro e w20 ⟨rfl, hbo2, hb20⟩
    have hzE := hb20
    have hl := Lib.hid ((hl.out.below hb20).mono hb20.size)
    have hu := Lib.hid ((hu.out.below hb20).mono hb20.size)
    have hv' := Lib.hid ((hv'.out.below hb20).mono hb20.size)
    have hco := Lib.hid ((hco.out.below hb20).mono hb20.size)
    have b5 := Lib.hid (blk_lift hb20 b5.out)
    have bf := Lib.hid (blk_lift hb20 bf.out)
    have hA1 := Lib.hid ((hA1.out.below hb20).mono hb20.size)
    have b9 := Lib.hid (blk_lift hb20 b9.out)
    have hA2 := Lib.hid ((hA2.out.below hb20).mono hb20.size)
    have b11 := Lib.hid (blk_lift hb20 b11.out)
    have ch20 := (ch19).trans (hb20.mono (ch19).size)
    clear ch19
    clear hb20
    go_wp2_with fail
    refine (rstepOk_at3 (B := T) hbo2.out (Nat.le_refl _) (fit_good hf) hv (by have := he.out; have := (fitsB_iff hf).1; show n.toNat ≠ l.length; omega) hst).mono ?_
    rintro e w21 ⟨rfl, hst', hbT⟩
    have hbA : Below w18.heap.size w18 w21 := (hzD.trans (hzE.mono hzD.size)).trans (hbT.mono hT)
    clear hzD hzE
    have b11 := b11R
    have hA2 := hA2R
    have b11 := Lib.hid (blk_lift hbA b11.out)
    have hA2 := Lib.hid ((hA2.out.below hbA).mono hbA.size)
    have ch21 := (chR).trans (hbA.mono (chR).size)
    clear chR
    clear hbA
    have KEEP := Lib.hid (box2_keep b11.out)
    have kT := Lib.hid (rtext_hid (w := w21) s'.pos rfl hg)
    have kS := Lib.hid (sameState_hid (w := w21) (n := s'.pos) hA2.out)
    have kA := Lib.hid (awake_hid w21)
    go_wp2
    go_region_held3 (fun w' => w'.cell? ⟨w11.heap.size, 0, none⟩ = some (.int .i64 s'.pos) ∧ w'.cell? ⟨w11.heap.size, 1, none⟩ = some (.slice a2 32 c2))
      (with_reducible (first | exact KEEP.out _ (hzf.alloc hzf.size _) | exact KEEP.out _ (hzf.alloc hzf.size _).drew | exact KEEP.out _ hzf | exact KEEP.out _ hzf.drew | exact KEEP.out _ (hzd.alloc hzd.size _) | exact KEEP.out _ (hzd.alloc hzd.size _).drew | exact KEEP.out _ hzd | exact KEEP.out _ hzd.drew | exact KEEP.out _ (hzc.alloc hzc.size _) | exact KEEP.out _ (hzc.alloc hzc.size _).drew | exact KEEP.out _ hzc | exact KEEP.out _ hzc.drew | exact KEEP.out _ (Below.refl _ _) | exact KEEP.out _ (Below.refl _ _).drew | exact KEEP.out _ (alloc_below _ _) | exact KEEP.out _ (alloc_below _ _).drew | fail "keep"))
      ((first
        | ((with_reducible refine (kT.out _ gs (by first | exact hst'.out | exact st_drew hst'.out) (by first | exact Below.refl _ _ | exact (Below.refl _ _).drew)).mono ?_); rintro e wc ⟨x1, rfl, hx1, hzc⟩)
        | ((with_reducible refine (kS.out _ x1 hx1.out hzc).mono ?_); rintro e wf ⟨rfl, hzd⟩)
        | ((with_reducible refine (kA.out _ hzd).mono ?_); rintro e w22 ⟨rfl, hzf⟩)
        | (fail "arm")))
    have b11 := Lib.hid (blk_lift hzf b11.out)
    have hA2 := Lib.hid ((hA2.out.below hzf).mono hzf.size)
    have ch22 := (ch21).trans (hzf.mono (ch21).size)
    clear ch21
    go_wp2
    go_ret
    exact ⟨rfl, ch22⟩)

set_option maxRecDepth 100000 in
set_option maxHeartbeats 8000000 in
theorem law_RunSteps_vybad {w : World} (v : Value) (l : List Ins) (hl : InsRow w w.heap.size v l) (s : ByteArray) (hs : s.size ≤ 140737488355328) (hx : isTree s = false) (n : Int) (au : Option Addr) (LL cu : Nat) (L : List ByteArray) (HLL : Hid (L.length = LL)) (hn : i64 n) (hz : L.length ≤ 8796093022208) (hu : StrRow w w.heap.size (.slice au LL cu) L) (hv : validB l = true) (hf : fitsB n l.length L = false) :
    Calls Try.prog 15 #[v, .string s, .agg #[.int .i64 n, .slice au LL cu]] w fun e w' => e = .returned (.bool true) ∧ Below w.heap.size w w' := by
    have hl := Lib.hid hl
    have hu := Lib.hid hu
    obtain ⟨W0, hW0⟩ : ∃ W0, w.alloc (.cells #[.int .i64 n, .slice au LL cu] 53) = W0 := ⟨_, rfl⟩
    have hq0 : Below w.heap.size w W0 := by rw [← hW0]; exact alloc_below _ _
    have b5 := Lib.hid (show W0.heap[w.heap.size]? = some (.cells #[.int .i64 n, .slice au LL cu] 53 (0, 0)) by rw [← hW0]; exact box2_new _ _ _ _)
    have hl := Lib.hid ((hl.out.below hq0).mono hq0.size)
    have hu := Lib.hid ((hu.out.below hq0).mono hq0.size)
    have HQ0 := Lib.hid hq0
    have e00 := box2 b5.out
    obtain ⟨e00, e01⟩ := e00
    clear hq0
    go_enter Try.func15, Try.ntmps15
    have kTw : Hid (∀ w', Below W0.heap.size W0 w' → Calls Try.prog 20 #[v] w' fun e w'' => ∃ v', e = .returned v' ∧ Hid (InsRow w'' w''.heap.size v' l) ∧ Hid (Below w'.heap.size w' w'') ∧ Below W0.heap.size W0 w'') := fun w' hb => (twin_any v l w' ((hl.out.below hb).mono hb.size)).mono fun e w'' ⟨v', h1, h2, h3⟩ => ⟨v', h1, h2, h3, hb.trans (h3.mono hb.size)⟩
    have kCo : Hid (∀ w', Below W0.heap.size W0 w' → Calls Try.prog 48 #[.agg #[.int .i64 n, .slice au LL cu]] w' fun e w'' => ∃ ac cc, e = .returned (.agg #[.int .i64 n, .slice ac LL cc]) ∧ Hid (StrRow w'' w''.heap.size (.slice ac LL cc) L) ∧ Hid (Below w'.heap.size w' w'') ∧ Below W0.heap.size W0 w'') := fun w' hb => by
      refine (copied_any n _ L hz w' ((hu.out.below hb).mono hb.size)).mono ?_
      rintro e w'' ⟨a, c, h1, h2, h3⟩
      rw [HLL.out] at h1 h2
      exact ⟨a, c, h1, h2, h3, hb.trans (h3.mono hb.size)⟩
    have KEEP := Lib.hid (box2_keep b5.out)
    go_wp2
    go_region_held3 (fun w' => w'.cell? ⟨w.heap.size, 0, none⟩ = some (.int .i64 n) ∧ w'.cell? ⟨w.heap.size, 1, none⟩ = some (.slice au LL cu))
      (with_reducible (first | exact KEEP.out _ (hzC.alloc hzC.size _) | exact KEEP.out _ (hzC.alloc hzC.size _).drew | exact KEEP.out _ hzC | exact KEEP.out _ hzC.drew | exact KEEP.out _ (hzT.alloc hzT.size _) | exact KEEP.out _ (hzT.alloc hzT.size _).drew | exact KEEP.out _ hzT | exact KEEP.out _ hzT.drew | exact KEEP.out _ (Below.refl _ _) | exact KEEP.out _ (Below.refl _ _).drew | exact KEEP.out _ (alloc_below _ _) | exact KEEP.out _ (alloc_below _ _).drew | (have hzS := hzC; have hzR := hzT; exact KEEP.out _ ((hzS.setCell (by first | exact hzR.size | exact Nat.le_refl _) _).setCell (by first | exact hzR.size | exact Nat.le_refl _) _)) | (have hzS := hzC; have hzR := hzT; exact KEEP.out _ ((hzS.setCell (by first | exact hzR.size | exact Nat.le_refl _) _).setCell (by first | exact hzR.size | exact Nat.le_refl _) _).drew) | fail "keep"))
      ((first
        | ((with_reducible refine (kTw.out _ (by first | exact Below.refl _ _ | exact (Below.refl _ _).drew | exact alloc_below _ _ | exact (alloc_below _ _).drew | exact (Below.refl _ _).drew.alloc (Nat.le_refl _) _)).mono ?_); rintro e wT ⟨v', rfl, hv', hlT, hzT⟩)
        | ((with_reducible refine (kCo.out _ (by first | exact hzT | exact hzT.alloc hzT.size _)).mono ?_); rintro e wC ⟨ac, cc, rfl, hco, hlC, hzC⟩; (first | (have hb8 := blk_lift hlC.out (box2_new wT _ _ _); obtain ⟨k80, k81, k82, k83⟩ := box4 hb8; have hb08 := Lib.hid hb8; clear hb8) | (have hb8 := blk_lift hlC.out (blk_lift_drew hlT.out (box2_new W0 _ _ _)); obtain ⟨k80, k81, k82, k83⟩ := box4 hb8; have hb08 := Lib.hid hb8; clear hb8) | (have hb8 := blk_lift hlC.out (blk_lift hlT.out (box2_new W0 _ _ _)); obtain ⟨k80, k81, k82, k83⟩ := box4 hb8; have hb08 := Lib.hid hb8; clear hb8) | skip))
        | (fail "arm")))
    all_goals (
    (first | (have BF := (BoxFin.set (W0 := W0) (A := wC) (.int .i64 n) (.slice ac LL cc) hb08.out (by intro s h; cases h) (by intro s h; cases h) (by first | exact Nat.le_refl _ | exact hzT.size))) | (have BF := (BoxFin.alloc (W0 := W0) (A := wC) 53 (.int .i64 n) (.slice ac LL cc) hzC.size)))
    refine BoxFin.elimW BF ?_
    clear BF
    intro w8 BF
    refine BoxFin.elimB BF.out ?_
    clear BF
    intro b8 BF
    have b5 := Lib.hid (BF.out.blk' (by rw [← hW0]; simp) (blk_lift hzC b5.out))
    have bf := Lib.hid BF.out.blk
    have hl := Lib.hid (BF.out.ins ((hl.out.below hzC).mono hzC.size))
    have hu := Lib.hid (BF.out.str ((hu.out.below hzC).mono hzC.size))
    have hv' := Lib.hid (BF.out.ins (by first | exact (hv'.out.below hlC.out).mono hlC.out.size | exact (((hv'.out.below (alloc_below _ _)).mono (alloc_below _ _).size).below hlC.out).mono hlC.out.size))
    have hco := Lib.hid (BF.out.str hco.out)
    have ch8 := HQ0.out.trans ((BF.out.below hzC).mono HQ0.out.size)
    clear BF HQ0 hzC hlC hlT hzT kTw kCo KEEP e00 e01
    try clear hb08 k80 k81 k82 k83
    go_wp2_with fail
    refine (first_bad v l _ hs _ hl.out (.inr hx)).mono ?_
    rintro e w9 ⟨rfl, hb9⟩
    have hl := Lib.hid ((hl.out.below hb9).mono hb9.size)
    have hu := Lib.hid ((hu.out.below hb9).mono hb9.size)
    have hv' := Lib.hid ((hv'.out.below hb9).mono hb9.size)
    have hco := Lib.hid ((hco.out.below hb9).mono hb9.size)
    have b5 := Lib.hid (blk_lift hb9 b5.out)
    have bf := Lib.hid (blk_lift hb9 bf.out)
    have ch9 := (ch8).trans (hb9.mono (ch8).size)
    clear ch8
    clear hb9
    have e1 := box2 (blk_lift (alloc_below w9 (.cells #[.int .i64 0, .slice none 0 0] 53)) b5.out)
    obtain ⟨e1a, e1b⟩ := e1
    go_wp2_with fail
    clear e1a e1b
    obtain ⟨w10, hW⟩ : ∃ B, w9.alloc (.cells #[.int .i64 0, .slice none 0 0] 53) = B := ⟨_, rfl⟩
    rw [hW]
    have hbB : Below w9.heap.size w9 w10 := by rw [← hW]; exact alloc_below _ _
    have b9 := Lib.hid (show w10.heap[w9.heap.size]? = some (.cells #[.int .i64 0, .slice none 0 0] 53 (0, 0)) by rw [← hW]; exact box2_new _ _ _ _)
    clear hW
    have hl := Lib.hid ((hl.out.below hbB).mono hbB.size)
    have hu := Lib.hid ((hu.out.below hbB).mono hbB.size)
    have hv' := Lib.hid ((hv'.out.below hbB).mono hbB.size)
    have hco := Lib.hid ((hco.out.below hbB).mono hbB.size)
    have b5 := Lib.hid (blk_lift hbB b5.out)
    have bf := Lib.hid (blk_lift hbB bf.out)
    have ch10 := (ch9).trans (hbB.mono (ch9).size)
    clear ch9
    clear hbB
    refine (step_bad_at hn (.inr hf) hl.out hu.out).mono ?_
    rintro e w11 ⟨rfl, hb11⟩
    have hl := Lib.hid ((hl.out.below hb11).mono hb11.size)
    have hu := Lib.hid ((hu.out.below hb11).mono hb11.size)
    have hv' := Lib.hid ((hv'.out.below hb11).mono hb11.size)
    have hco := Lib.hid ((hco.out.below hb11).mono hb11.size)
    have b5 := Lib.hid (blk_lift hb11 b5.out)
    have bf := Lib.hid (blk_lift hb11 bf.out)
    have b9 := Lib.hid (blk_lift hb11 b9.out)
    have ch11 := (ch10).trans (hb11.mono (ch10).size)
    clear ch10
    clear hb11
    go_wp2_with fail
    obtain ⟨w12, hW⟩ : ∃ B, w11.alloc (.cells #[.int .i64 0, .slice none 0 0] 53) = B := ⟨_, rfl⟩
    rw [hW]
    have hbB : Below w11.heap.size w11 w12 := by rw [← hW]; exact alloc_below _ _
    have b11 := Lib.hid (show w12.heap[w11.heap.size]? = some (.cells #[.int .i64 0, .slice none 0 0] 53 (0, 0)) by rw [← hW]; exact box2_new _ _ _ _)
    clear hW
    have hl := Lib.hid ((hl.out.below hbB).mono hbB.size)
    have hu := Lib.hid ((hu.out.below hbB).mono hbB.size)
    have hv' := Lib.hid ((hv'.out.below hbB).mono hbB.size)
    have hco := Lib.hid ((hco.out.below hbB).mono hbB.size)
    have b5 := Lib.hid (blk_lift hbB b5.out)
    have bf := Lib.hid (blk_lift hbB bf.out)
    have b9 := Lib.hid (blk_lift hbB b9.out)
    have ch12 := (ch11).trans (hbB.mono (ch11).size)
    clear ch11
    clear hbB
    refine (same_self hl.out hv'.out).mono ?_
    rintro e w13 ⟨rfl, hb13⟩
    have hl := Lib.hid ((hl.out.below hb13).mono hb13.size)
    have hu := Lib.hid ((hu.out.below hb13).mono hb13.size)
    have hv' := Lib.hid ((hv'.out.below hb13).mono hb13.size)
    have hco := Lib.hid ((hco.out.below hb13).mono hb13.size)
    have b5 := Lib.hid (blk_lift hb13 b5.out)
    have bf := Lib.hid (blk_lift hb13 bf.out)
    have b9 := Lib.hid (blk_lift hb13 b9.out)
    have b11 := Lib.hid (blk_lift hb13 b11.out)
    have ch13 := (ch12).trans (hb13.mono (ch12).size)
    clear ch12
    clear hb13
    have e1 := box2 b5.out
    obtain ⟨e1a, e1b⟩ := e1
    have e2 := box2 bf.out
    obtain ⟨e2a, e2b⟩ := e2
    go_wp2_with fail
    clear e1a e1b
    clear e2a e2b
    refine (sameState_at rfl rfl hu.out hco.out).mono ?_
    rintro e w14 ⟨rfl, hb14⟩
    have hl := Lib.hid ((hl.out.below hb14).mono hb14.size)
    have hu := Lib.hid ((hu.out.below hb14).mono hb14.size)
    have hv' := Lib.hid ((hv'.out.below hb14).mono hb14.size)
    have hco := Lib.hid ((hco.out.below hb14).mono hb14.size)
    have b5 := Lib.hid (blk_lift hb14 b5.out)
    have bf := Lib.hid (blk_lift hb14 bf.out)
    have b9 := Lib.hid (blk_lift hb14 b9.out)
    have b11 := Lib.hid (blk_lift hb14 b11.out)
    have ch14 := (ch13).trans (hb14.mono (ch13).size)
    clear ch13
    clear hb14
    go_wp2_with fail
    refine (cvalid_at true hv hl.out).mono ?_
    rintro e w15 ⟨rfl, hb15⟩
    have hl := Lib.hid ((hl.out.below hb15).mono hb15.size)
    have hu := Lib.hid ((hu.out.below hb15).mono hb15.size)
    have hv' := Lib.hid ((hv'.out.below hb15).mono hb15.size)
    have hco := Lib.hid ((hco.out.below hb15).mono hb15.size)
    have b5 := Lib.hid (blk_lift hb15 b5.out)
    have bf := Lib.hid (blk_lift hb15 bf.out)
    have b9 := Lib.hid (blk_lift hb15 b9.out)
    have b11 := Lib.hid (blk_lift hb15 b11.out)
    have ch15 := (ch14).trans (hb15.mono (ch14).size)
    clear ch14
    clear hb15
    go_wp2_with fail
    refine (tvalid_at _ hs false hx _).mono ?_
    rintro e w16 ⟨rfl, hb16⟩
    have hl := Lib.hid ((hl.out.below hb16).mono hb16.size)
    have hu := Lib.hid ((hu.out.below hb16).mono hb16.size)
    have hv' := Lib.hid ((hv'.out.below hb16).mono hb16.size)
    have hco := Lib.hid ((hco.out.below hb16).mono hb16.size)
    have b5 := Lib.hid (blk_lift hb16 b5.out)
    have bf := Lib.hid (blk_lift hb16 bf.out)
    have b9 := Lib.hid (blk_lift hb16 b9.out)
    have b11 := Lib.hid (blk_lift hb16 b11.out)
    have ch16 := (ch15).trans (hb16.mono (ch15).size)
    clear ch15
    clear hb16
    have e1 := box2 b9.out
    obtain ⟨e1a, e1b⟩ := e1
    go_wp2_with fail
    clear e1a e1b
    refine (none0_at _).mono ?_
    rintro e w17 ⟨rfl, hb17⟩
    have hl := Lib.hid ((hl.out.below hb17).mono hb17.size)
    have hu := Lib.hid ((hu.out.below hb17).mono hb17.size)
    have hv' := Lib.hid ((hv'.out.below hb17).mono hb17.size)
    have hco := Lib.hid ((hco.out.below hb17).mono hb17.size)
    have b5 := Lib.hid (blk_lift hb17 b5.out)
    have bf := Lib.hid (blk_lift hb17 bf.out)
    have b9 := Lib.hid (blk_lift hb17 b9.out)
    have b11 := Lib.hid (blk_lift hb17 b11.out)
    have ch17 := (ch16).trans (hb17.mono (ch16).size)
    clear ch16
    clear hb17
    have e1 := box2 b5.out
    obtain ⟨e1a, e1b⟩ := e1
    go_wp2_with fail
    clear e1a e1b
    refine (fits3_at false hf hn hl.out hu.out).mono ?_
    rintro e w18 ⟨rfl, hb18⟩
    have hl := Lib.hid ((hl.out.below hb18).mono hb18.size)
    have hu := Lib.hid ((hu.out.below hb18).mono hb18.size)
    have hv' := Lib.hid ((hv'.out.below hb18).mono hb18.size)
    have hco := Lib.hid ((hco.out.below hb18).mono hb18.size)
    have b5 := Lib.hid (blk_lift hb18 b5.out)
    have bf := Lib.hid (blk_lift hb18 bf.out)
    have b9 := Lib.hid (blk_lift hb18 b9.out)
    have b11 := Lib.hid (blk_lift hb18 b11.out)
    have ch18 := (ch17).trans (hb18.mono (ch17).size)
    clear ch17
    clear hb18
    have e1 := box2 b11.out
    obtain ⟨e1a, e1b⟩ := e1
    go_wp2_with fail
    clear e1a e1b
    refine (none0_at _).mono ?_
    rintro e w19 ⟨rfl, hb19⟩
    have hl := Lib.hid ((hl.out.below hb19).mono hb19.size)
    have hu := Lib.hid ((hu.out.below hb19).mono hb19.size)
    have hv' := Lib.hid ((hv'.out.below hb19).mono hb19.size)
    have hco := Lib.hid ((hco.out.below hb19).mono hb19.size)
    have b5 := Lib.hid (blk_lift hb19 b5.out)
    have bf := Lib.hid (blk_lift hb19 bf.out)
    have b9 := Lib.hid (blk_lift hb19 b9.out)
    have b11 := Lib.hid (blk_lift hb19 b11.out)
    have ch19 := (ch18).trans (hb19.mono (ch18).size)
    clear ch18
    clear hb19
    go_wp2_with fail
    refine (awake03 _).mono ?_
    rintro e w20 ⟨rfl, hb20⟩
    have hl := Lib.hid ((hl.out.below hb20).mono hb20.size)
    have hu := Lib.hid ((hu.out.below hb20).mono hb20.size)
    have hv' := Lib.hid ((hv'.out.below hb20).mono hb20.size)
    have hco := Lib.hid ((hco.out.below hb20).mono hb20.size)
    have b5 := Lib.hid (blk_lift hb20 b5.out)
    have bf := Lib.hid (blk_lift hb20 bf.out)
    have b9 := Lib.hid (blk_lift hb20 b9.out)
    have b11 := Lib.hid (blk_lift hb20 b11.out)
    have ch20 := (ch19).trans (hb20.mono (ch19).size)
    clear ch19
    clear hb20
    go_wp2
    go_ret
    exact ⟨rfl, ch20⟩)

set_option maxRecDepth 100000 in
set_option maxHeartbeats 8000000 in
theorem law_RunSteps_vyend {w : World} (v : Value) (l : List Ins) (hl : InsRow w w.heap.size v l) (s : ByteArray) (hs : s.size ≤ 140737488355328) (hx : isTree s = false) (n : Int) (au : Option Addr) (LL cu : Nat) (L : List ByteArray) (HLL : Hid (L.length = LL)) (hn : i64 n) (hz : L.length ≤ 8796093022208) (hu : StrRow w w.heap.size (.slice au LL cu) L) (hv : validB l = true) (hf : fitsB n l.length L = true) (he : Hid (n = l.length)) :
    Calls Try.prog 15 #[v, .string s, .agg #[.int .i64 n, .slice au LL cu]] w fun e w' => e = .returned (.bool true) ∧ Below w.heap.size w w' := by
    have hl := Lib.hid hl
    have hu := Lib.hid hu
    obtain ⟨W0, hW0⟩ : ∃ W0, w.alloc (.cells #[.int .i64 n, .slice au LL cu] 53) = W0 := ⟨_, rfl⟩
    have hq0 : Below w.heap.size w W0 := by rw [← hW0]; exact alloc_below _ _
    have b5 := Lib.hid (show W0.heap[w.heap.size]? = some (.cells #[.int .i64 n, .slice au LL cu] 53 (0, 0)) by rw [← hW0]; exact box2_new _ _ _ _)
    have hl := Lib.hid ((hl.out.below hq0).mono hq0.size)
    have hu := Lib.hid ((hu.out.below hq0).mono hq0.size)
    have HQ0 := Lib.hid hq0
    have e00 := box2 b5.out
    obtain ⟨e00, e01⟩ := e00
    clear hq0
    go_enter Try.func15, Try.ntmps15
    have kTw : Hid (∀ w', Below W0.heap.size W0 w' → Calls Try.prog 20 #[v] w' fun e w'' => ∃ v', e = .returned v' ∧ Hid (InsRow w'' w''.heap.size v' l) ∧ Hid (Below w'.heap.size w' w'') ∧ Below W0.heap.size W0 w'') := fun w' hb => (twin_any v l w' ((hl.out.below hb).mono hb.size)).mono fun e w'' ⟨v', h1, h2, h3⟩ => ⟨v', h1, h2, h3, hb.trans (h3.mono hb.size)⟩
    have kCo : Hid (∀ w', Below W0.heap.size W0 w' → Calls Try.prog 48 #[.agg #[.int .i64 n, .slice au LL cu]] w' fun e w'' => ∃ ac cc, e = .returned (.agg #[.int .i64 n, .slice ac LL cc]) ∧ Hid (StrRow w'' w''.heap.size (.slice ac LL cc) L) ∧ Hid (Below w'.heap.size w' w'') ∧ Below W0.heap.size W0 w'') := fun w' hb => by
      refine (copied_any n _ L hz w' ((hu.out.below hb).mono hb.size)).mono ?_
      rintro e w'' ⟨a, c, h1, h2, h3⟩
      rw [HLL.out] at h1 h2
      exact ⟨a, c, h1, h2, h3, hb.trans (h3.mono hb.size)⟩
    have KEEP := Lib.hid (box2_keep b5.out)
    go_wp2
    go_region_held3 (fun w' => w'.cell? ⟨w.heap.size, 0, none⟩ = some (.int .i64 n) ∧ w'.cell? ⟨w.heap.size, 1, none⟩ = some (.slice au LL cu))
      (with_reducible (first | exact KEEP.out _ (hzC.alloc hzC.size _) | exact KEEP.out _ (hzC.alloc hzC.size _).drew | exact KEEP.out _ hzC | exact KEEP.out _ hzC.drew | exact KEEP.out _ (hzT.alloc hzT.size _) | exact KEEP.out _ (hzT.alloc hzT.size _).drew | exact KEEP.out _ hzT | exact KEEP.out _ hzT.drew | exact KEEP.out _ (Below.refl _ _) | exact KEEP.out _ (Below.refl _ _).drew | exact KEEP.out _ (alloc_below _ _) | exact KEEP.out _ (alloc_below _ _).drew | (have hzS := hzC; have hzR := hzT; exact KEEP.out _ ((hzS.setCell (by first | exact hzR.size | exact Nat.le_refl _) _).setCell (by first | exact hzR.size | exact Nat.le_refl _) _)) | (have hzS := hzC; have hzR := hzT; exact KEEP.out _ ((hzS.setCell (by first | exact hzR.size | exact Nat.le_refl _) _).setCell (by first | exact hzR.size | exact Nat.le_refl _) _).drew) | fail "keep"))
      ((first
        | ((with_reducible refine (kTw.out _ (by first | exact Below.refl _ _ | exact (Below.refl _ _).drew | exact alloc_below _ _ | exact (alloc_below _ _).drew | exact (Below.refl _ _).drew.alloc (Nat.le_refl _) _)).mono ?_); rintro e wT ⟨v', rfl, hv', hlT, hzT⟩)
        | ((with_reducible refine (kCo.out _ (by first | exact hzT | exact hzT.alloc hzT.size _)).mono ?_); rintro e wC ⟨ac, cc, rfl, hco, hlC, hzC⟩; (first | (have hb8 := blk_lift hlC.out (box2_new wT _ _ _); obtain ⟨k80, k81, k82, k83⟩ := box4 hb8; have hb08 := Lib.hid hb8; clear hb8) | (have hb8 := blk_lift hlC.out (blk_lift_drew hlT.out (box2_new W0 _ _ _)); obtain ⟨k80, k81, k82, k83⟩ := box4 hb8; have hb08 := Lib.hid hb8; clear hb8) | (have hb8 := blk_lift hlC.out (blk_lift hlT.out (box2_new W0 _ _ _)); obtain ⟨k80, k81, k82, k83⟩ := box4 hb8; have hb08 := Lib.hid hb8; clear hb8) | skip))
        | (fail "arm")))
    all_goals (
    (first | (have BF := (BoxFin.set (W0 := W0) (A := wC) (.int .i64 n) (.slice ac LL cc) hb08.out (by intro s h; cases h) (by intro s h; cases h) (by first | exact Nat.le_refl _ | exact hzT.size))) | (have BF := (BoxFin.alloc (W0 := W0) (A := wC) 53 (.int .i64 n) (.slice ac LL cc) hzC.size)))
    refine BoxFin.elimW BF ?_
    clear BF
    intro w8 BF
    refine BoxFin.elimB BF.out ?_
    clear BF
    intro b8 BF
    have b5 := Lib.hid (BF.out.blk' (by rw [← hW0]; simp) (blk_lift hzC b5.out))
    have bf := Lib.hid BF.out.blk
    have hl := Lib.hid (BF.out.ins ((hl.out.below hzC).mono hzC.size))
    have hu := Lib.hid (BF.out.str ((hu.out.below hzC).mono hzC.size))
    have hv' := Lib.hid (BF.out.ins (by first | exact (hv'.out.below hlC.out).mono hlC.out.size | exact (((hv'.out.below (alloc_below _ _)).mono (alloc_below _ _).size).below hlC.out).mono hlC.out.size))
    have hco := Lib.hid (BF.out.str hco.out)
    have ch8 := HQ0.out.trans ((BF.out.below hzC).mono HQ0.out.size)
    clear BF HQ0 hzC hlC hlT hzT kTw kCo KEEP e00 e01
    try clear hb08 k80 k81 k82 k83
    go_wp2_with fail
    refine (first_bad v l _ hs _ hl.out (.inr hx)).mono ?_
    rintro e w9 ⟨rfl, hb9⟩
    have hl := Lib.hid ((hl.out.below hb9).mono hb9.size)
    have hu := Lib.hid ((hu.out.below hb9).mono hb9.size)
    have hv' := Lib.hid ((hv'.out.below hb9).mono hb9.size)
    have hco := Lib.hid ((hco.out.below hb9).mono hb9.size)
    have b5 := Lib.hid (blk_lift hb9 b5.out)
    have bf := Lib.hid (blk_lift hb9 bf.out)
    have ch9 := (ch8).trans (hb9.mono (ch8).size)
    clear ch8
    clear hb9
    have e1 := box2 (blk_lift (alloc_below w9 (.cells #[.int .i64 0, .slice none 0 0] 53)) b5.out)
    obtain ⟨e1a, e1b⟩ := e1
    go_wp2_with fail
    clear e1a e1b
    obtain ⟨w10, hW⟩ : ∃ B, w9.alloc (.cells #[.int .i64 0, .slice none 0 0] 53) = B := ⟨_, rfl⟩
    rw [hW]
    have hbB : Below w9.heap.size w9 w10 := by rw [← hW]; exact alloc_below _ _
    have b9 := Lib.hid (show w10.heap[w9.heap.size]? = some (.cells #[.int .i64 0, .slice none 0 0] 53 (0, 0)) by rw [← hW]; exact box2_new _ _ _ _)
    clear hW
    have hl := Lib.hid ((hl.out.below hbB).mono hbB.size)
    have hu := Lib.hid ((hu.out.below hbB).mono hbB.size)
    have hv' := Lib.hid ((hv'.out.below hbB).mono hbB.size)
    have hco := Lib.hid ((hco.out.below hbB).mono hbB.size)
    have b5 := Lib.hid (blk_lift hbB b5.out)
    have bf := Lib.hid (blk_lift hbB bf.out)
    have ch10 := (ch9).trans (hbB.mono (ch9).size)
    clear ch9
    clear hbB
    refine (step_end_at hv hf he.out hl.out hu.out).mono ?_
    rintro e w11 ⟨rfl, hb11⟩
    have hl := Lib.hid ((hl.out.below hb11).mono hb11.size)
    have hu := Lib.hid ((hu.out.below hb11).mono hb11.size)
    have hv' := Lib.hid ((hv'.out.below hb11).mono hb11.size)
    have hco := Lib.hid ((hco.out.below hb11).mono hb11.size)
    have b5 := Lib.hid (blk_lift hb11 b5.out)
    have bf := Lib.hid (blk_lift hb11 bf.out)
    have b9 := Lib.hid (blk_lift hb11 b9.out)
    have ch11 := (ch10).trans (hb11.mono (ch10).size)
    clear ch10
    clear hb11
    go_wp2_with fail
    obtain ⟨w12, hW⟩ : ∃ B, w11.alloc (.cells #[.int .i64 0, .slice none 0 0] 53) = B := ⟨_, rfl⟩
    rw [hW]
    have hbB : Below w11.heap.size w11 w12 := by rw [← hW]; exact alloc_below _ _
    have b11 := Lib.hid (show w12.heap[w11.heap.size]? = some (.cells #[.int .i64 0, .slice none 0 0] 53 (0, 0)) by rw [← hW]; exact box2_new _ _ _ _)
    clear hW
    have hl := Lib.hid ((hl.out.below hbB).mono hbB.size)
    have hu := Lib.hid ((hu.out.below hbB).mono hbB.size)
    have hv' := Lib.hid ((hv'.out.below hbB).mono hbB.size)
    have hco := Lib.hid ((hco.out.below hbB).mono hbB.size)
    have b5 := Lib.hid (blk_lift hbB b5.out)
    have bf := Lib.hid (blk_lift hbB bf.out)
    have b9 := Lib.hid (blk_lift hbB b9.out)
    have ch12 := (ch11).trans (hbB.mono (ch11).size)
    clear ch11
    clear hbB
    refine (same_self hl.out hv'.out).mono ?_
    rintro e w13 ⟨rfl, hb13⟩
    have hl := Lib.hid ((hl.out.below hb13).mono hb13.size)
    have hu := Lib.hid ((hu.out.below hb13).mono hb13.size)
    have hv' := Lib.hid ((hv'.out.below hb13).mono hb13.size)
    have hco := Lib.hid ((hco.out.below hb13).mono hb13.size)
    have b5 := Lib.hid (blk_lift hb13 b5.out)
    have bf := Lib.hid (blk_lift hb13 bf.out)
    have b9 := Lib.hid (blk_lift hb13 b9.out)
    have b11 := Lib.hid (blk_lift hb13 b11.out)
    have ch13 := (ch12).trans (hb13.mono (ch12).size)
    clear ch12
    clear hb13
    have e1 := box2 b5.out
    obtain ⟨e1a, e1b⟩ := e1
    have e2 := box2 bf.out
    obtain ⟨e2a, e2b⟩ := e2
    go_wp2_with fail
    clear e1a e1b
    clear e2a e2b
    refine (sameState_at rfl rfl hu.out hco.out).mono ?_
    rintro e w14 ⟨rfl, hb14⟩
    have hl := Lib.hid ((hl.out.below hb14).mono hb14.size)
    have hu := Lib.hid ((hu.out.below hb14).mono hb14.size)
    have hv' := Lib.hid ((hv'.out.below hb14).mono hb14.size)
    have hco := Lib.hid ((hco.out.below hb14).mono hb14.size)
    have b5 := Lib.hid (blk_lift hb14 b5.out)
    have bf := Lib.hid (blk_lift hb14 bf.out)
    have b9 := Lib.hid (blk_lift hb14 b9.out)
    have b11 := Lib.hid (blk_lift hb14 b11.out)
    have ch14 := (ch13).trans (hb14.mono (ch13).size)
    clear ch13
    clear hb14
    go_wp2_with fail
    refine (cvalid_at true hv hl.out).mono ?_
    rintro e w15 ⟨rfl, hb15⟩
    have hl := Lib.hid ((hl.out.below hb15).mono hb15.size)
    have hu := Lib.hid ((hu.out.below hb15).mono hb15.size)
    have hv' := Lib.hid ((hv'.out.below hb15).mono hb15.size)
    have hco := Lib.hid ((hco.out.below hb15).mono hb15.size)
    have b5 := Lib.hid (blk_lift hb15 b5.out)
    have bf := Lib.hid (blk_lift hb15 bf.out)
    have b9 := Lib.hid (blk_lift hb15 b9.out)
    have b11 := Lib.hid (blk_lift hb15 b11.out)
    have ch15 := (ch14).trans (hb15.mono (ch14).size)
    clear ch14
    clear hb15
    go_wp2_with fail
    refine (tvalid_at _ hs false hx _).mono ?_
    rintro e w16 ⟨rfl, hb16⟩
    have hl := Lib.hid ((hl.out.below hb16).mono hb16.size)
    have hu := Lib.hid ((hu.out.below hb16).mono hb16.size)
    have hv' := Lib.hid ((hv'.out.below hb16).mono hb16.size)
    have hco := Lib.hid ((hco.out.below hb16).mono hb16.size)
    have b5 := Lib.hid (blk_lift hb16 b5.out)
    have bf := Lib.hid (blk_lift hb16 bf.out)
    have b9 := Lib.hid (blk_lift hb16 b9.out)
    have b11 := Lib.hid (blk_lift hb16 b11.out)
    have ch16 := (ch15).trans (hb16.mono (ch15).size)
    clear ch15
    clear hb16
    have e1 := box2 b9.out
    obtain ⟨e1a, e1b⟩ := e1
    go_wp2_with fail
    clear e1a e1b
    refine (none0_at _).mono ?_
    rintro e w17 ⟨rfl, hb17⟩
    have hl := Lib.hid ((hl.out.below hb17).mono hb17.size)
    have hu := Lib.hid ((hu.out.below hb17).mono hb17.size)
    have hv' := Lib.hid ((hv'.out.below hb17).mono hb17.size)
    have hco := Lib.hid ((hco.out.below hb17).mono hb17.size)
    have b5 := Lib.hid (blk_lift hb17 b5.out)
    have bf := Lib.hid (blk_lift hb17 bf.out)
    have b9 := Lib.hid (blk_lift hb17 b9.out)
    have b11 := Lib.hid (blk_lift hb17 b11.out)
    have ch17 := (ch16).trans (hb17.mono (ch16).size)
    clear ch16
    clear hb17
    have e1 := box2 b5.out
    obtain ⟨e1a, e1b⟩ := e1
    go_wp2_with fail
    clear e1a e1b
    refine (fits3_at true hf hn hl.out hu.out).mono ?_
    rintro e w18 ⟨rfl, hb18⟩
    have hl := Lib.hid ((hl.out.below hb18).mono hb18.size)
    have hu := Lib.hid ((hu.out.below hb18).mono hb18.size)
    have hv' := Lib.hid ((hv'.out.below hb18).mono hb18.size)
    have hco := Lib.hid ((hco.out.below hb18).mono hb18.size)
    have b5 := Lib.hid (blk_lift hb18 b5.out)
    have bf := Lib.hid (blk_lift hb18 bf.out)
    have b9 := Lib.hid (blk_lift hb18 b9.out)
    have b11 := Lib.hid (blk_lift hb18 b11.out)
    have ch18 := (ch17).trans (hb18.mono (ch17).size)
    clear ch17
    clear hb18
    have KEEP := Lib.hid (box2_keep b5.out)
    have kL := Lib.hid (load_hid (w := w18) hl.out hv)
    have kD := Lib.hid (rread_hid (w := w18) hf hu.out (l := l) (v := v))
    go_wp2
    go_region_held3 (fun w' => w'.cell? ⟨w.heap.size, 0, none⟩ = some (.int .i64 n) ∧ w'.cell? ⟨w.heap.size, 1, none⟩ = some (.slice au LL cu))
      (with_reducible (first | exact KEEP.out _ (hzd.alloc hzd.size _) | exact KEEP.out _ (hzd.alloc hzd.size _).drew | exact KEEP.out _ hzd | exact KEEP.out _ hzd.drew | exact KEEP.out _ (hza.alloc hza.size _) | exact KEEP.out _ (hza.alloc hza.size _).drew | exact KEEP.out _ hza | exact KEEP.out _ hza.drew | exact KEEP.out _ (Below.refl _ _) | exact KEEP.out _ (Below.refl _ _).drew | exact KEEP.out _ (alloc_below _ _) | exact KEEP.out _ (alloc_below _ _).drew | fail "keep"))
      ((first
        | ((with_reducible refine (kL.out _ (by first | exact Below.refl _ _ | exact (Below.refl _ _).drew)).mono ?_); rintro e wa ⟨gm, tv, rfl, hm, hza⟩)
        | ((with_reducible refine (kD.out _ gm tv hm.out hza).mono ?_); rintro e w19 ⟨gs, rfl, hbo, hzd⟩)
        | (fail "arm")))
    have hl := Lib.hid ((hl.out.below hzd).mono hzd.size)
    have hu := Lib.hid ((hu.out.below hzd).mono hzd.size)
    have hv' := Lib.hid ((hv'.out.below hzd).mono hzd.size)
    have hco := Lib.hid ((hco.out.below hzd).mono hzd.size)
    have b5 := Lib.hid (blk_lift hzd b5.out)
    have bf := Lib.hid (blk_lift hzd bf.out)
    have b9 := Lib.hid (blk_lift hzd b9.out)
    have b11 := Lib.hid (blk_lift hzd b11.out)
    have ch19 := (ch18).trans (hzd.mono (ch18).size)
    clear ch18
    clear kL kD KEEP hzd
    obtain ⟨T, hT, hbo⟩ := hbo.out
    have hT : w18.heap.size ≤ T := hT
    go_wp2_with fail
    refine (ended_at3 true (by have h1 := he.out; have h2 := (fitsB_iff hf).1; show (((n.toNat : Nat) : Int) == (l.length : Int)) = _; simp; omega) hbo).mono ?_
    rintro e w20 ⟨rfl, hbo2, hb20⟩
    have hl := Lib.hid ((hl.out.below hb20).mono hb20.size)
    have hu := Lib.hid ((hu.out.below hb20).mono hb20.size)
    have hv' := Lib.hid ((hv'.out.below hb20).mono hb20.size)
    have hco := Lib.hid ((hco.out.below hb20).mono hb20.size)
    have b5 := Lib.hid (blk_lift hb20 b5.out)
    have bf := Lib.hid (blk_lift hb20 bf.out)
    have b9 := Lib.hid (blk_lift hb20 b9.out)
    have b11 := Lib.hid (blk_lift hb20 b11.out)
    have ch20 := (ch19).trans (hb20.mono (ch19).size)
    clear ch19
    clear hb20
    have e1 := box2 b11.out
    obtain ⟨e1a, e1b⟩ := e1
    go_wp2_with fail
    clear e1a e1b
    refine (none0_at _).mono ?_
    rintro e w21 ⟨rfl, hb21⟩
    have hl := Lib.hid ((hl.out.below hb21).mono hb21.size)
    have hu := Lib.hid ((hu.out.below hb21).mono hb21.size)
    have hv' := Lib.hid ((hv'.out.below hb21).mono hb21.size)
    have hco := Lib.hid ((hco.out.below hb21).mono hb21.size)
    have b5 := Lib.hid (blk_lift hb21 b5.out)
    have bf := Lib.hid (blk_lift hb21 bf.out)
    have b9 := Lib.hid (blk_lift hb21 b9.out)
    have b11 := Lib.hid (blk_lift hb21 b11.out)
    have ch21 := (ch20).trans (hb21.mono (ch20).size)
    clear ch20
    clear hb21
    go_wp2_with fail
    refine (awake03 _).mono ?_
    rintro e w22 ⟨rfl, hb22⟩
    have hl := Lib.hid ((hl.out.below hb22).mono hb22.size)
    have hu := Lib.hid ((hu.out.below hb22).mono hb22.size)
    have hv' := Lib.hid ((hv'.out.below hb22).mono hb22.size)
    have hco := Lib.hid ((hco.out.below hb22).mono hb22.size)
    have b5 := Lib.hid (blk_lift hb22 b5.out)
    have bf := Lib.hid (blk_lift hb22 bf.out)
    have b9 := Lib.hid (blk_lift hb22 b9.out)
    have b11 := Lib.hid (blk_lift hb22 b11.out)
    have ch22 := (ch21).trans (hb22.mono (ch21).size)
    clear ch21
    clear hb22
    go_wp2
    go_ret
    exact ⟨rfl, ch22⟩)

set_option maxRecDepth 100000 in
set_option maxHeartbeats 8000000 in
theorem law_RunSteps_vybig {w : World} (v : Value) (l : List Ins) (hl : InsRow w w.heap.size v l) (s : ByteArray) (hs : s.size ≤ 140737488355328) (hx : isTree s = false) (n : Int) (au : Option Addr) (LL cu : Nat) (L : List ByteArray) (HLL : Hid (L.length = LL)) (hn : i64 n) (hz : L.length ≤ 8796093022208) (hu : StrRow w w.heap.size (.slice au LL cu) L) (hv : validB l = true) (hf : fitsB n l.length L = true) (he : Hid (n ≠ l.length)) (hst : stepP l ⟨n.toNat, L.map toTr⟩ = none) :
    Calls Try.prog 15 #[v, .string s, .agg #[.int .i64 n, .slice au LL cu]] w fun e w' => e = .returned (.bool true) ∧ Below w.heap.size w w' := by
    have hl := Lib.hid hl
    have hu := Lib.hid hu
    obtain ⟨W0, hW0⟩ : ∃ W0, w.alloc (.cells #[.int .i64 n, .slice au LL cu] 53) = W0 := ⟨_, rfl⟩
    have hq0 : Below w.heap.size w W0 := by rw [← hW0]; exact alloc_below _ _
    have b5 := Lib.hid (show W0.heap[w.heap.size]? = some (.cells #[.int .i64 n, .slice au LL cu] 53 (0, 0)) by rw [← hW0]; exact box2_new _ _ _ _)
    have hl := Lib.hid ((hl.out.below hq0).mono hq0.size)
    have hu := Lib.hid ((hu.out.below hq0).mono hq0.size)
    have HQ0 := Lib.hid hq0
    have e00 := box2 b5.out
    obtain ⟨e00, e01⟩ := e00
    clear hq0
    go_enter Try.func15, Try.ntmps15
    have kTw : Hid (∀ w', Below W0.heap.size W0 w' → Calls Try.prog 20 #[v] w' fun e w'' => ∃ v', e = .returned v' ∧ Hid (InsRow w'' w''.heap.size v' l) ∧ Hid (Below w'.heap.size w' w'') ∧ Below W0.heap.size W0 w'') := fun w' hb => (twin_any v l w' ((hl.out.below hb).mono hb.size)).mono fun e w'' ⟨v', h1, h2, h3⟩ => ⟨v', h1, h2, h3, hb.trans (h3.mono hb.size)⟩
    have kCo : Hid (∀ w', Below W0.heap.size W0 w' → Calls Try.prog 48 #[.agg #[.int .i64 n, .slice au LL cu]] w' fun e w'' => ∃ ac cc, e = .returned (.agg #[.int .i64 n, .slice ac LL cc]) ∧ Hid (StrRow w'' w''.heap.size (.slice ac LL cc) L) ∧ Hid (Below w'.heap.size w' w'') ∧ Below W0.heap.size W0 w'') := fun w' hb => by
      refine (copied_any n _ L hz w' ((hu.out.below hb).mono hb.size)).mono ?_
      rintro e w'' ⟨a, c, h1, h2, h3⟩
      rw [HLL.out] at h1 h2
      exact ⟨a, c, h1, h2, h3, hb.trans (h3.mono hb.size)⟩
    have KEEP := Lib.hid (box2_keep b5.out)
    go_wp2
    go_region_held3 (fun w' => w'.cell? ⟨w.heap.size, 0, none⟩ = some (.int .i64 n) ∧ w'.cell? ⟨w.heap.size, 1, none⟩ = some (.slice au LL cu))
      (with_reducible (first | exact KEEP.out _ (hzC.alloc hzC.size _) | exact KEEP.out _ (hzC.alloc hzC.size _).drew | exact KEEP.out _ hzC | exact KEEP.out _ hzC.drew | exact KEEP.out _ (hzT.alloc hzT.size _) | exact KEEP.out _ (hzT.alloc hzT.size _).drew | exact KEEP.out _ hzT | exact KEEP.out _ hzT.drew | exact KEEP.out _ (Below.refl _ _) | exact KEEP.out _ (Below.refl _ _).drew | exact KEEP.out _ (alloc_below _ _) | exact KEEP.out _ (alloc_below _ _).drew | (have hzS := hzC; have hzR := hzT; exact KEEP.out _ ((hzS.setCell (by first | exact hzR.size | exact Nat.le_refl _) _).setCell (by first | exact hzR.size | exact Nat.le_refl _) _)) | (have hzS := hzC; have hzR := hzT; exact KEEP.out _ ((hzS.setCell (by first | exact hzR.size | exact Nat.le_refl _) _).setCell (by first | exact hzR.size | exact Nat.le_refl _) _).drew) | fail "keep"))
      ((first
        | ((with_reducible refine (kTw.out _ (by first | exact Below.refl _ _ | exact (Below.refl _ _).drew | exact alloc_below _ _ | exact (alloc_below _ _).drew | exact (Below.refl _ _).drew.alloc (Nat.le_refl _) _)).mono ?_); rintro e wT ⟨v', rfl, hv', hlT, hzT⟩)
        | ((with_reducible refine (kCo.out _ (by first | exact hzT | exact hzT.alloc hzT.size _)).mono ?_); rintro e wC ⟨ac, cc, rfl, hco, hlC, hzC⟩; (first | (have hb8 := blk_lift hlC.out (box2_new wT _ _ _); obtain ⟨k80, k81, k82, k83⟩ := box4 hb8; have hb08 := Lib.hid hb8; clear hb8) | (have hb8 := blk_lift hlC.out (blk_lift_drew hlT.out (box2_new W0 _ _ _)); obtain ⟨k80, k81, k82, k83⟩ := box4 hb8; have hb08 := Lib.hid hb8; clear hb8) | (have hb8 := blk_lift hlC.out (blk_lift hlT.out (box2_new W0 _ _ _)); obtain ⟨k80, k81, k82, k83⟩ := box4 hb8; have hb08 := Lib.hid hb8; clear hb8) | skip))
        | (fail "arm")))
    all_goals (
    (first | (have BF := (BoxFin.set (W0 := W0) (A := wC) (.int .i64 n) (.slice ac LL cc) hb08.out (by intro s h; cases h) (by intro s h; cases h) (by first | exact Nat.le_refl _ | exact hzT.size))) | (have BF := (BoxFin.alloc (W0 := W0) (A := wC) 53 (.int .i64 n) (.slice ac LL cc) hzC.size)))
    refine BoxFin.elimW BF ?_
    clear BF
    intro w8 BF
    refine BoxFin.elimB BF.out ?_
    clear BF
    intro b8 BF
    have b5 := Lib.hid (BF.out.blk' (by rw [← hW0]; simp) (blk_lift hzC b5.out))
    have bf := Lib.hid BF.out.blk
    have hl := Lib.hid (BF.out.ins ((hl.out.below hzC).mono hzC.size))
    have hu := Lib.hid (BF.out.str ((hu.out.below hzC).mono hzC.size))
    have hv' := Lib.hid (BF.out.ins (by first | exact (hv'.out.below hlC.out).mono hlC.out.size | exact (((hv'.out.below (alloc_below _ _)).mono (alloc_below _ _).size).below hlC.out).mono hlC.out.size))
    have hco := Lib.hid (BF.out.str hco.out)
    have ch8 := HQ0.out.trans ((BF.out.below hzC).mono HQ0.out.size)
    clear BF HQ0 hzC hlC hlT hzT kTw kCo KEEP e00 e01
    try clear hb08 k80 k81 k82 k83
    go_wp2_with fail
    refine (first_bad v l _ hs _ hl.out (.inr hx)).mono ?_
    rintro e w9 ⟨rfl, hb9⟩
    have hl := Lib.hid ((hl.out.below hb9).mono hb9.size)
    have hu := Lib.hid ((hu.out.below hb9).mono hb9.size)
    have hv' := Lib.hid ((hv'.out.below hb9).mono hb9.size)
    have hco := Lib.hid ((hco.out.below hb9).mono hb9.size)
    have b5 := Lib.hid (blk_lift hb9 b5.out)
    have bf := Lib.hid (blk_lift hb9 bf.out)
    have ch9 := (ch8).trans (hb9.mono (ch8).size)
    clear ch8
    clear hb9
    have e1 := box2 (blk_lift (alloc_below w9 (.cells #[.int .i64 0, .slice none 0 0] 53)) b5.out)
    obtain ⟨e1a, e1b⟩ := e1
    go_wp2_with fail
    clear e1a e1b
    obtain ⟨w10, hW⟩ : ∃ B, w9.alloc (.cells #[.int .i64 0, .slice none 0 0] 53) = B := ⟨_, rfl⟩
    rw [hW]
    have hbB : Below w9.heap.size w9 w10 := by rw [← hW]; exact alloc_below _ _
    have b9 := Lib.hid (show w10.heap[w9.heap.size]? = some (.cells #[.int .i64 0, .slice none 0 0] 53 (0, 0)) by rw [← hW]; exact box2_new _ _ _ _)
    clear hW
    have hl := Lib.hid ((hl.out.below hbB).mono hbB.size)
    have hu := Lib.hid ((hu.out.below hbB).mono hbB.size)
    have hv' := Lib.hid ((hv'.out.below hbB).mono hbB.size)
    have hco := Lib.hid ((hco.out.below hbB).mono hbB.size)
    have b5 := Lib.hid (blk_lift hbB b5.out)
    have bf := Lib.hid (blk_lift hbB bf.out)
    have ch10 := (ch9).trans (hbB.mono (ch9).size)
    clear ch9
    clear hbB
    refine (step_big_at hv hf he.out hst hl.out hu.out).mono ?_
    rintro e w11 ⟨rfl, hb11⟩
    have hl := Lib.hid ((hl.out.below hb11).mono hb11.size)
    have hu := Lib.hid ((hu.out.below hb11).mono hb11.size)
    have hv' := Lib.hid ((hv'.out.below hb11).mono hb11.size)
    have hco := Lib.hid ((hco.out.below hb11).mono hb11.size)
    have b5 := Lib.hid (blk_lift hb11 b5.out)
    have bf := Lib.hid (blk_lift hb11 bf.out)
    have b9 := Lib.hid (blk_lift hb11 b9.out)
    have ch11 := (ch10).trans (hb11.mono (ch10).size)
    clear ch10
    clear hb11
    go_wp2_with fail
    obtain ⟨w12, hW⟩ : ∃ B, w11.alloc (.cells #[.int .i64 0, .slice none 0 0] 53) = B := ⟨_, rfl⟩
    rw [hW]
    have hbB : Below w11.heap.size w11 w12 := by rw [← hW]; exact alloc_below _ _
    have b11 := Lib.hid (show w12.heap[w11.heap.size]? = some (.cells #[.int .i64 0, .slice none 0 0] 53 (0, 0)) by rw [← hW]; exact box2_new _ _ _ _)
    clear hW
    have hl := Lib.hid ((hl.out.below hbB).mono hbB.size)
    have hu := Lib.hid ((hu.out.below hbB).mono hbB.size)
    have hv' := Lib.hid ((hv'.out.below hbB).mono hbB.size)
    have hco := Lib.hid ((hco.out.below hbB).mono hbB.size)
    have b5 := Lib.hid (blk_lift hbB b5.out)
    have bf := Lib.hid (blk_lift hbB bf.out)
    have b9 := Lib.hid (blk_lift hbB b9.out)
    have ch12 := (ch11).trans (hbB.mono (ch11).size)
    clear ch11
    clear hbB
    refine (same_self hl.out hv'.out).mono ?_
    rintro e w13 ⟨rfl, hb13⟩
    have hl := Lib.hid ((hl.out.below hb13).mono hb13.size)
    have hu := Lib.hid ((hu.out.below hb13).mono hb13.size)
    have hv' := Lib.hid ((hv'.out.below hb13).mono hb13.size)
    have hco := Lib.hid ((hco.out.below hb13).mono hb13.size)
    have b5 := Lib.hid (blk_lift hb13 b5.out)
    have bf := Lib.hid (blk_lift hb13 bf.out)
    have b9 := Lib.hid (blk_lift hb13 b9.out)
    have b11 := Lib.hid (blk_lift hb13 b11.out)
    have ch13 := (ch12).trans (hb13.mono (ch12).size)
    clear ch12
    clear hb13
    have e1 := box2 b5.out
    obtain ⟨e1a, e1b⟩ := e1
    have e2 := box2 bf.out
    obtain ⟨e2a, e2b⟩ := e2
    go_wp2_with fail
    clear e1a e1b
    clear e2a e2b
    refine (sameState_at rfl rfl hu.out hco.out).mono ?_
    rintro e w14 ⟨rfl, hb14⟩
    have hl := Lib.hid ((hl.out.below hb14).mono hb14.size)
    have hu := Lib.hid ((hu.out.below hb14).mono hb14.size)
    have hv' := Lib.hid ((hv'.out.below hb14).mono hb14.size)
    have hco := Lib.hid ((hco.out.below hb14).mono hb14.size)
    have b5 := Lib.hid (blk_lift hb14 b5.out)
    have bf := Lib.hid (blk_lift hb14 bf.out)
    have b9 := Lib.hid (blk_lift hb14 b9.out)
    have b11 := Lib.hid (blk_lift hb14 b11.out)
    have ch14 := (ch13).trans (hb14.mono (ch13).size)
    clear ch13
    clear hb14
    go_wp2_with fail
    refine (cvalid_at true hv hl.out).mono ?_
    rintro e w15 ⟨rfl, hb15⟩
    have hl := Lib.hid ((hl.out.below hb15).mono hb15.size)
    have hu := Lib.hid ((hu.out.below hb15).mono hb15.size)
    have hv' := Lib.hid ((hv'.out.below hb15).mono hb15.size)
    have hco := Lib.hid ((hco.out.below hb15).mono hb15.size)
    have b5 := Lib.hid (blk_lift hb15 b5.out)
    have bf := Lib.hid (blk_lift hb15 bf.out)
    have b9 := Lib.hid (blk_lift hb15 b9.out)
    have b11 := Lib.hid (blk_lift hb15 b11.out)
    have ch15 := (ch14).trans (hb15.mono (ch14).size)
    clear ch14
    clear hb15
    go_wp2_with fail
    refine (tvalid_at _ hs false hx _).mono ?_
    rintro e w16 ⟨rfl, hb16⟩
    have hl := Lib.hid ((hl.out.below hb16).mono hb16.size)
    have hu := Lib.hid ((hu.out.below hb16).mono hb16.size)
    have hv' := Lib.hid ((hv'.out.below hb16).mono hb16.size)
    have hco := Lib.hid ((hco.out.below hb16).mono hb16.size)
    have b5 := Lib.hid (blk_lift hb16 b5.out)
    have bf := Lib.hid (blk_lift hb16 bf.out)
    have b9 := Lib.hid (blk_lift hb16 b9.out)
    have b11 := Lib.hid (blk_lift hb16 b11.out)
    have ch16 := (ch15).trans (hb16.mono (ch15).size)
    clear ch15
    clear hb16
    have e1 := box2 b9.out
    obtain ⟨e1a, e1b⟩ := e1
    go_wp2_with fail
    clear e1a e1b
    refine (none0_at _).mono ?_
    rintro e w17 ⟨rfl, hb17⟩
    have hl := Lib.hid ((hl.out.below hb17).mono hb17.size)
    have hu := Lib.hid ((hu.out.below hb17).mono hb17.size)
    have hv' := Lib.hid ((hv'.out.below hb17).mono hb17.size)
    have hco := Lib.hid ((hco.out.below hb17).mono hb17.size)
    have b5 := Lib.hid (blk_lift hb17 b5.out)
    have bf := Lib.hid (blk_lift hb17 bf.out)
    have b9 := Lib.hid (blk_lift hb17 b9.out)
    have b11 := Lib.hid (blk_lift hb17 b11.out)
    have ch17 := (ch16).trans (hb17.mono (ch16).size)
    clear ch16
    clear hb17
    have e1 := box2 b5.out
    obtain ⟨e1a, e1b⟩ := e1
    go_wp2_with fail
    clear e1a e1b
    refine (fits3_at true hf hn hl.out hu.out).mono ?_
    rintro e w18 ⟨rfl, hb18⟩
    have hl := Lib.hid ((hl.out.below hb18).mono hb18.size)
    have hu := Lib.hid ((hu.out.below hb18).mono hb18.size)
    have hv' := Lib.hid ((hv'.out.below hb18).mono hb18.size)
    have hco := Lib.hid ((hco.out.below hb18).mono hb18.size)
    have b5 := Lib.hid (blk_lift hb18 b5.out)
    have bf := Lib.hid (blk_lift hb18 bf.out)
    have b9 := Lib.hid (blk_lift hb18 b9.out)
    have b11 := Lib.hid (blk_lift hb18 b11.out)
    have ch18 := (ch17).trans (hb18.mono (ch17).size)
    clear ch17
    clear hb18
    have KEEP := Lib.hid (box2_keep b5.out)
    have kL := Lib.hid (load_hid (w := w18) hl.out hv)
    have kD := Lib.hid (rread_hid (w := w18) hf hu.out (l := l) (v := v))
    go_wp2
    go_region_held3 (fun w' => w'.cell? ⟨w.heap.size, 0, none⟩ = some (.int .i64 n) ∧ w'.cell? ⟨w.heap.size, 1, none⟩ = some (.slice au LL cu))
      (with_reducible (first | exact KEEP.out _ (hzd.alloc hzd.size _) | exact KEEP.out _ (hzd.alloc hzd.size _).drew | exact KEEP.out _ hzd | exact KEEP.out _ hzd.drew | exact KEEP.out _ (hza.alloc hza.size _) | exact KEEP.out _ (hza.alloc hza.size _).drew | exact KEEP.out _ hza | exact KEEP.out _ hza.drew | exact KEEP.out _ (Below.refl _ _) | exact KEEP.out _ (Below.refl _ _).drew | exact KEEP.out _ (alloc_below _ _) | exact KEEP.out _ (alloc_below _ _).drew | fail "keep"))
      ((first
        | ((with_reducible refine (kL.out _ (by first | exact Below.refl _ _ | exact (Below.refl _ _).drew)).mono ?_); rintro e wa ⟨gm, tv, rfl, hm, hza⟩)
        | ((with_reducible refine (kD.out _ gm tv hm.out hza).mono ?_); rintro e w19 ⟨gs, rfl, hbo, hzd⟩)
        | (fail "arm")))
    have hzD := hzd
    have b11R := b11
    have chR := ch18
    have hl := Lib.hid ((hl.out.below hzd).mono hzd.size)
    have hu := Lib.hid ((hu.out.below hzd).mono hzd.size)
    have hv' := Lib.hid ((hv'.out.below hzd).mono hzd.size)
    have hco := Lib.hid ((hco.out.below hzd).mono hzd.size)
    have b5 := Lib.hid (blk_lift hzd b5.out)
    have bf := Lib.hid (blk_lift hzd bf.out)
    have b9 := Lib.hid (blk_lift hzd b9.out)
    have b11 := Lib.hid (blk_lift hzd b11.out)
    have ch19 := (ch18).trans (hzd.mono (ch18).size)
    clear ch18
    clear kL kD KEEP hzd
    obtain ⟨T, hT, hbo⟩ := hbo.out
    have hT : w18.heap.size ≤ T := hT
    go_wp2_with fail
    refine (ended_at3 false (by have h1 := he.out; have h2 := (fitsB_iff hf).1; show (((n.toNat : Nat) : Int) == (l.length : Int)) = _; simp; omega) hbo).mono ?_
    rintro e w20 ⟨rfl, hbo2, hb20⟩
    have hzE := hb20
    have hl := Lib.hid ((hl.out.below hb20).mono hb20.size)
    have hu := Lib.hid ((hu.out.below hb20).mono hb20.size)
    have hv' := Lib.hid ((hv'.out.below hb20).mono hb20.size)
    have hco := Lib.hid ((hco.out.below hb20).mono hb20.size)
    have b5 := Lib.hid (blk_lift hb20 b5.out)
    have bf := Lib.hid (blk_lift hb20 bf.out)
    have b9 := Lib.hid (blk_lift hb20 b9.out)
    have b11 := Lib.hid (blk_lift hb20 b11.out)
    have ch20 := (ch19).trans (hb20.mono (ch19).size)
    clear ch19
    clear hb20
    go_wp2_with fail
    refine (rstepNo_at3 (B := T) hbo2.out (Nat.le_refl _) (fit_good hf) hv (by have := he.out; have := (fitsB_iff hf).1; show n.toNat ≠ l.length; omega) hst).mono ?_
    rintro e w21 ⟨rfl, hbT⟩
    have hbA : Below w18.heap.size w18 w21 := (hzD.trans (hzE.mono hzD.size)).trans (hbT.mono hT)
    clear hzD hzE
    have b11 := b11R
    have b11 := Lib.hid (blk_lift hbA b11.out)
    have ch21 := (chR).trans (hbA.mono (chR).size)
    clear chR
    clear hbA
    have e1 := box2 b11.out
    obtain ⟨e1a, e1b⟩ := e1
    go_wp2_with fail
    clear e1a e1b
    refine (none0_at _).mono ?_
    rintro e w22 ⟨rfl, hb22⟩
    have b11 := Lib.hid (blk_lift hb22 b11.out)
    have ch22 := (ch21).trans (hb22.mono (ch21).size)
    clear ch21
    clear hb22
    go_wp2_with fail
    refine (awake03 _).mono ?_
    rintro e w23 ⟨rfl, hb23⟩
    have b11 := Lib.hid (blk_lift hb23 b11.out)
    have ch23 := (ch22).trans (hb23.mono (ch22).size)
    clear ch22
    clear hb23
    go_wp2
    go_ret
    exact ⟨rfl, ch23⟩)

set_option maxRecDepth 100000 in
set_option maxHeartbeats 8000000 in
theorem law_RunSteps_vyok {w : World} (v : Value) (l : List Ins) (hl : InsRow w w.heap.size v l) (s : ByteArray) (hs : s.size ≤ 140737488355328) (hx : isTree s = false) (n : Int) (au : Option Addr) (LL cu : Nat) (L : List ByteArray) (HLL : Hid (L.length = LL)) (hn : i64 n) (hz : L.length ≤ 8796093022208) (hu : StrRow w w.heap.size (.slice au LL cu) L) (hv : validB l = true) (hf : fitsB n l.length L = true) (he : Hid (n ≠ l.length)) (s' : St) (hg : Good l.length s') (hst : stepP l ⟨n.toNat, L.map toTr⟩ = some s') :
    Calls Try.prog 15 #[v, .string s, .agg #[.int .i64 n, .slice au LL cu]] w fun e w' => e = .returned (.bool true) ∧ Below w.heap.size w w' := by
    have hl := Lib.hid hl
    have hu := Lib.hid hu
    obtain ⟨W0, hW0⟩ : ∃ W0, w.alloc (.cells #[.int .i64 n, .slice au LL cu] 53) = W0 := ⟨_, rfl⟩
    have hq0 : Below w.heap.size w W0 := by rw [← hW0]; exact alloc_below _ _
    have b5 := Lib.hid (show W0.heap[w.heap.size]? = some (.cells #[.int .i64 n, .slice au LL cu] 53 (0, 0)) by rw [← hW0]; exact box2_new _ _ _ _)
    have hl := Lib.hid ((hl.out.below hq0).mono hq0.size)
    have hu := Lib.hid ((hu.out.below hq0).mono hq0.size)
    have HQ0 := Lib.hid hq0
    have e00 := box2 b5.out
    obtain ⟨e00, e01⟩ := e00
    clear hq0
    go_enter Try.func15, Try.ntmps15
    have kTw : Hid (∀ w', Below W0.heap.size W0 w' → Calls Try.prog 20 #[v] w' fun e w'' => ∃ v', e = .returned v' ∧ Hid (InsRow w'' w''.heap.size v' l) ∧ Hid (Below w'.heap.size w' w'') ∧ Below W0.heap.size W0 w'') := fun w' hb => (twin_any v l w' ((hl.out.below hb).mono hb.size)).mono fun e w'' ⟨v', h1, h2, h3⟩ => ⟨v', h1, h2, h3, hb.trans (h3.mono hb.size)⟩
    have kCo : Hid (∀ w', Below W0.heap.size W0 w' → Calls Try.prog 48 #[.agg #[.int .i64 n, .slice au LL cu]] w' fun e w'' => ∃ ac cc, e = .returned (.agg #[.int .i64 n, .slice ac LL cc]) ∧ Hid (StrRow w'' w''.heap.size (.slice ac LL cc) L) ∧ Hid (Below w'.heap.size w' w'') ∧ Below W0.heap.size W0 w'') := fun w' hb => by
      refine (copied_any n _ L hz w' ((hu.out.below hb).mono hb.size)).mono ?_
      rintro e w'' ⟨a, c, h1, h2, h3⟩
      rw [HLL.out] at h1 h2
      exact ⟨a, c, h1, h2, h3, hb.trans (h3.mono hb.size)⟩
    have KEEP := Lib.hid (box2_keep b5.out)
    go_wp2
    go_region_held3 (fun w' => w'.cell? ⟨w.heap.size, 0, none⟩ = some (.int .i64 n) ∧ w'.cell? ⟨w.heap.size, 1, none⟩ = some (.slice au LL cu))
      (with_reducible (first | exact KEEP.out _ (hzC.alloc hzC.size _) | exact KEEP.out _ (hzC.alloc hzC.size _).drew | exact KEEP.out _ hzC | exact KEEP.out _ hzC.drew | exact KEEP.out _ (hzT.alloc hzT.size _) | exact KEEP.out _ (hzT.alloc hzT.size _).drew | exact KEEP.out _ hzT | exact KEEP.out _ hzT.drew | exact KEEP.out _ (Below.refl _ _) | exact KEEP.out _ (Below.refl _ _).drew | exact KEEP.out _ (alloc_below _ _) | exact KEEP.out _ (alloc_below _ _).drew | (have hzS := hzC; have hzR := hzT; exact KEEP.out _ ((hzS.setCell (by first | exact hzR.size | exact Nat.le_refl _) _).setCell (by first | exact hzR.size | exact Nat.le_refl _) _)) | (have hzS := hzC; have hzR := hzT; exact KEEP.out _ ((hzS.setCell (by first | exact hzR.size | exact Nat.le_refl _) _).setCell (by first | exact hzR.size | exact Nat.le_refl _) _).drew) | fail "keep"))
      ((first
        | ((with_reducible refine (kTw.out _ (by first | exact Below.refl _ _ | exact (Below.refl _ _).drew | exact alloc_below _ _ | exact (alloc_below _ _).drew | exact (Below.refl _ _).drew.alloc (Nat.le_refl _) _)).mono ?_); rintro e wT ⟨v', rfl, hv', hlT, hzT⟩)
        | ((with_reducible refine (kCo.out _ (by first | exact hzT | exact hzT.alloc hzT.size _)).mono ?_); rintro e wC ⟨ac, cc, rfl, hco, hlC, hzC⟩; (first | (have hb8 := blk_lift hlC.out (box2_new wT _ _ _); obtain ⟨k80, k81, k82, k83⟩ := box4 hb8; have hb08 := Lib.hid hb8; clear hb8) | (have hb8 := blk_lift hlC.out (blk_lift_drew hlT.out (box2_new W0 _ _ _)); obtain ⟨k80, k81, k82, k83⟩ := box4 hb8; have hb08 := Lib.hid hb8; clear hb8) | (have hb8 := blk_lift hlC.out (blk_lift hlT.out (box2_new W0 _ _ _)); obtain ⟨k80, k81, k82, k83⟩ := box4 hb8; have hb08 := Lib.hid hb8; clear hb8) | skip))
        | (fail "arm")))
    all_goals (
    (first | (have BF := (BoxFin.set (W0 := W0) (A := wC) (.int .i64 n) (.slice ac LL cc) hb08.out (by intro s h; cases h) (by intro s h; cases h) (by first | exact Nat.le_refl _ | exact hzT.size))) | (have BF := (BoxFin.alloc (W0 := W0) (A := wC) 53 (.int .i64 n) (.slice ac LL cc) hzC.size)))
    refine BoxFin.elimW BF ?_
    clear BF
    intro w8 BF
    refine BoxFin.elimB BF.out ?_
    clear BF
    intro b8 BF
    have b5 := Lib.hid (BF.out.blk' (by rw [← hW0]; simp) (blk_lift hzC b5.out))
    have bf := Lib.hid BF.out.blk
    have hl := Lib.hid (BF.out.ins ((hl.out.below hzC).mono hzC.size))
    have hu := Lib.hid (BF.out.str ((hu.out.below hzC).mono hzC.size))
    have hv' := Lib.hid (BF.out.ins (by first | exact (hv'.out.below hlC.out).mono hlC.out.size | exact (((hv'.out.below (alloc_below _ _)).mono (alloc_below _ _).size).below hlC.out).mono hlC.out.size))
    have hco := Lib.hid (BF.out.str hco.out)
    have ch8 := HQ0.out.trans ((BF.out.below hzC).mono HQ0.out.size)
    clear BF HQ0 hzC hlC hlT hzT kTw kCo KEEP e00 e01
    try clear hb08 k80 k81 k82 k83
    go_wp2_with fail
    refine (first_bad v l _ hs _ hl.out (.inr hx)).mono ?_
    rintro e w9 ⟨rfl, hb9⟩
    have hl := Lib.hid ((hl.out.below hb9).mono hb9.size)
    have hu := Lib.hid ((hu.out.below hb9).mono hb9.size)
    have hv' := Lib.hid ((hv'.out.below hb9).mono hb9.size)
    have hco := Lib.hid ((hco.out.below hb9).mono hb9.size)
    have b5 := Lib.hid (blk_lift hb9 b5.out)
    have bf := Lib.hid (blk_lift hb9 bf.out)
    have ch9 := (ch8).trans (hb9.mono (ch8).size)
    clear ch8
    clear hb9
    have e1 := box2 (blk_lift (alloc_below w9 (.cells #[.int .i64 0, .slice none 0 0] 53)) b5.out)
    obtain ⟨e1a, e1b⟩ := e1
    go_wp2_with fail
    clear e1a e1b
    obtain ⟨w10, hW⟩ : ∃ B, w9.alloc (.cells #[.int .i64 0, .slice none 0 0] 53) = B := ⟨_, rfl⟩
    rw [hW]
    have hbB : Below w9.heap.size w9 w10 := by rw [← hW]; exact alloc_below _ _
    have b9 := Lib.hid (show w10.heap[w9.heap.size]? = some (.cells #[.int .i64 0, .slice none 0 0] 53 (0, 0)) by rw [← hW]; exact box2_new _ _ _ _)
    clear hW
    have hl := Lib.hid ((hl.out.below hbB).mono hbB.size)
    have hu := Lib.hid ((hu.out.below hbB).mono hbB.size)
    have hv' := Lib.hid ((hv'.out.below hbB).mono hbB.size)
    have hco := Lib.hid ((hco.out.below hbB).mono hbB.size)
    have b5 := Lib.hid (blk_lift hbB b5.out)
    have bf := Lib.hid (blk_lift hbB bf.out)
    have ch10 := (ch9).trans (hbB.mono (ch9).size)
    clear ch9
    clear hbB
    refine (step_ok_at hv hf he.out hg.2.1 hst hl.out hu.out).mono ?_
    rintro e w11 ⟨a2, c2, rfl, hA2, hb11⟩
    have hl := Lib.hid ((hl.out.below hb11).mono hb11.size)
    have hu := Lib.hid ((hu.out.below hb11).mono hb11.size)
    have hv' := Lib.hid ((hv'.out.below hb11).mono hb11.size)
    have hco := Lib.hid ((hco.out.below hb11).mono hb11.size)
    have b5 := Lib.hid (blk_lift hb11 b5.out)
    have bf := Lib.hid (blk_lift hb11 bf.out)
    have b9 := Lib.hid (blk_lift hb11 b9.out)
    have ch11 := (ch10).trans (hb11.mono (ch10).size)
    clear ch10
    clear hb11
    have hA2 := Lib.hid hA2
    go_wp2_with fail
    obtain ⟨w12, hW⟩ : ∃ B, w11.alloc (.cells #[.int .i64 s'.pos, .slice a2 32 c2] 53) = B := ⟨_, rfl⟩
    rw [hW]
    have hbB : Below w11.heap.size w11 w12 := by rw [← hW]; exact alloc_below _ _
    have b11 := Lib.hid (show w12.heap[w11.heap.size]? = some (.cells #[.int .i64 s'.pos, .slice a2 32 c2] 53 (0, 0)) by rw [← hW]; exact box2_new _ _ _ _)
    clear hW
    have hl := Lib.hid ((hl.out.below hbB).mono hbB.size)
    have hu := Lib.hid ((hu.out.below hbB).mono hbB.size)
    have hv' := Lib.hid ((hv'.out.below hbB).mono hbB.size)
    have hco := Lib.hid ((hco.out.below hbB).mono hbB.size)
    have b5 := Lib.hid (blk_lift hbB b5.out)
    have bf := Lib.hid (blk_lift hbB bf.out)
    have b9 := Lib.hid (blk_lift hbB b9.out)
    have hA2 := Lib.hid ((hA2.out.below hbB).mono hbB.size)
    have ch12 := (ch11).trans (hbB.mono (ch11).size)
    clear ch11
    clear hbB
    refine (same_self hl.out hv'.out).mono ?_
    rintro e w13 ⟨rfl, hb13⟩
    have hl := Lib.hid ((hl.out.below hb13).mono hb13.size)
    have hu := Lib.hid ((hu.out.below hb13).mono hb13.size)
    have hv' := Lib.hid ((hv'.out.below hb13).mono hb13.size)
    have hco := Lib.hid ((hco.out.below hb13).mono hb13.size)
    have b5 := Lib.hid (blk_lift hb13 b5.out)
    have bf := Lib.hid (blk_lift hb13 bf.out)
    have b9 := Lib.hid (blk_lift hb13 b9.out)
    have hA2 := Lib.hid ((hA2.out.below hb13).mono hb13.size)
    have b11 := Lib.hid (blk_lift hb13 b11.out)
    have ch13 := (ch12).trans (hb13.mono (ch12).size)
    clear ch12
    clear hb13
    have e1 := box2 b5.out
    obtain ⟨e1a, e1b⟩ := e1
    have e2 := box2 bf.out
    obtain ⟨e2a, e2b⟩ := e2
    go_wp2_with fail
    clear e1a e1b
    clear e2a e2b
    refine (sameState_at rfl rfl hu.out hco.out).mono ?_
    rintro e w14 ⟨rfl, hb14⟩
    have hl := Lib.hid ((hl.out.below hb14).mono hb14.size)
    have hu := Lib.hid ((hu.out.below hb14).mono hb14.size)
    have hv' := Lib.hid ((hv'.out.below hb14).mono hb14.size)
    have hco := Lib.hid ((hco.out.below hb14).mono hb14.size)
    have b5 := Lib.hid (blk_lift hb14 b5.out)
    have bf := Lib.hid (blk_lift hb14 bf.out)
    have b9 := Lib.hid (blk_lift hb14 b9.out)
    have hA2 := Lib.hid ((hA2.out.below hb14).mono hb14.size)
    have b11 := Lib.hid (blk_lift hb14 b11.out)
    have ch14 := (ch13).trans (hb14.mono (ch13).size)
    clear ch13
    clear hb14
    go_wp2_with fail
    refine (cvalid_at true hv hl.out).mono ?_
    rintro e w15 ⟨rfl, hb15⟩
    have hl := Lib.hid ((hl.out.below hb15).mono hb15.size)
    have hu := Lib.hid ((hu.out.below hb15).mono hb15.size)
    have hv' := Lib.hid ((hv'.out.below hb15).mono hb15.size)
    have hco := Lib.hid ((hco.out.below hb15).mono hb15.size)
    have b5 := Lib.hid (blk_lift hb15 b5.out)
    have bf := Lib.hid (blk_lift hb15 bf.out)
    have b9 := Lib.hid (blk_lift hb15 b9.out)
    have hA2 := Lib.hid ((hA2.out.below hb15).mono hb15.size)
    have b11 := Lib.hid (blk_lift hb15 b11.out)
    have ch15 := (ch14).trans (hb15.mono (ch14).size)
    clear ch14
    clear hb15
    go_wp2_with fail
    refine (tvalid_at _ hs false hx _).mono ?_
    rintro e w16 ⟨rfl, hb16⟩
    have hl := Lib.hid ((hl.out.below hb16).mono hb16.size)
    have hu := Lib.hid ((hu.out.below hb16).mono hb16.size)
    have hv' := Lib.hid ((hv'.out.below hb16).mono hb16.size)
    have hco := Lib.hid ((hco.out.below hb16).mono hb16.size)
    have b5 := Lib.hid (blk_lift hb16 b5.out)
    have bf := Lib.hid (blk_lift hb16 bf.out)
    have b9 := Lib.hid (blk_lift hb16 b9.out)
    have hA2 := Lib.hid ((hA2.out.below hb16).mono hb16.size)
    have b11 := Lib.hid (blk_lift hb16 b11.out)
    have ch16 := (ch15).trans (hb16.mono (ch15).size)
    clear ch15
    clear hb16
    have e1 := box2 b9.out
    obtain ⟨e1a, e1b⟩ := e1
    go_wp2_with fail
    clear e1a e1b
    refine (none0_at _).mono ?_
    rintro e w17 ⟨rfl, hb17⟩
    have hl := Lib.hid ((hl.out.below hb17).mono hb17.size)
    have hu := Lib.hid ((hu.out.below hb17).mono hb17.size)
    have hv' := Lib.hid ((hv'.out.below hb17).mono hb17.size)
    have hco := Lib.hid ((hco.out.below hb17).mono hb17.size)
    have b5 := Lib.hid (blk_lift hb17 b5.out)
    have bf := Lib.hid (blk_lift hb17 bf.out)
    have b9 := Lib.hid (blk_lift hb17 b9.out)
    have hA2 := Lib.hid ((hA2.out.below hb17).mono hb17.size)
    have b11 := Lib.hid (blk_lift hb17 b11.out)
    have ch17 := (ch16).trans (hb17.mono (ch16).size)
    clear ch16
    clear hb17
    have e1 := box2 b5.out
    obtain ⟨e1a, e1b⟩ := e1
    go_wp2_with fail
    clear e1a e1b
    refine (fits3_at true hf hn hl.out hu.out).mono ?_
    rintro e w18 ⟨rfl, hb18⟩
    have hl := Lib.hid ((hl.out.below hb18).mono hb18.size)
    have hu := Lib.hid ((hu.out.below hb18).mono hb18.size)
    have hv' := Lib.hid ((hv'.out.below hb18).mono hb18.size)
    have hco := Lib.hid ((hco.out.below hb18).mono hb18.size)
    have b5 := Lib.hid (blk_lift hb18 b5.out)
    have bf := Lib.hid (blk_lift hb18 bf.out)
    have b9 := Lib.hid (blk_lift hb18 b9.out)
    have hA2 := Lib.hid ((hA2.out.below hb18).mono hb18.size)
    have b11 := Lib.hid (blk_lift hb18 b11.out)
    have ch18 := (ch17).trans (hb18.mono (ch17).size)
    clear ch17
    clear hb18
    have KEEP := Lib.hid (box2_keep b5.out)
    have kL := Lib.hid (load_hid (w := w18) hl.out hv)
    have kD := Lib.hid (rread_hid (w := w18) hf hu.out (l := l) (v := v))
    go_wp2
    go_region_held3 (fun w' => w'.cell? ⟨w.heap.size, 0, none⟩ = some (.int .i64 n) ∧ w'.cell? ⟨w.heap.size, 1, none⟩ = some (.slice au LL cu))
      (with_reducible (first | exact KEEP.out _ (hzd.alloc hzd.size _) | exact KEEP.out _ (hzd.alloc hzd.size _).drew | exact KEEP.out _ hzd | exact KEEP.out _ hzd.drew | exact KEEP.out _ (hza.alloc hza.size _) | exact KEEP.out _ (hza.alloc hza.size _).drew | exact KEEP.out _ hza | exact KEEP.out _ hza.drew | exact KEEP.out _ (Below.refl _ _) | exact KEEP.out _ (Below.refl _ _).drew | exact KEEP.out _ (alloc_below _ _) | exact KEEP.out _ (alloc_below _ _).drew | fail "keep"))
      ((first
        | ((with_reducible refine (kL.out _ (by first | exact Below.refl _ _ | exact (Below.refl _ _).drew)).mono ?_); rintro e wa ⟨gm, tv, rfl, hm, hza⟩)
        | ((with_reducible refine (kD.out _ gm tv hm.out hza).mono ?_); rintro e w19 ⟨gs, rfl, hbo, hzd⟩)
        | (fail "arm")))
    have hzD := hzd
    have b11R := b11
    have chR := ch18
    have hA2R := hA2
    have hl := Lib.hid ((hl.out.below hzd).mono hzd.size)
    have hu := Lib.hid ((hu.out.below hzd).mono hzd.size)
    have hv' := Lib.hid ((hv'.out.below hzd).mono hzd.size)
    have hco := Lib.hid ((hco.out.below hzd).mono hzd.size)
    have b5 := Lib.hid (blk_lift hzd b5.out)
    have bf := Lib.hid (blk_lift hzd bf.out)
    have b9 := Lib.hid (blk_lift hzd b9.out)
    have hA2 := Lib.hid ((hA2.out.below hzd).mono hzd.size)
    have b11 := Lib.hid (blk_lift hzd b11.out)
    have ch19 := (ch18).trans (hzd.mono (ch18).size)
    clear ch18
    clear kL kD KEEP hzd
    obtain ⟨T, hT, hbo⟩ := hbo.out
    have hT : w18.heap.size ≤ T := hT
    go_wp2_with fail
    refine (ended_at3 false (by have h1 := he.out; have h2 := (fitsB_iff hf).1; show (((n.toNat : Nat) : Int) == (l.length : Int)) = _; simp; omega) hbo).mono ?_
    rintro e w20 ⟨rfl, hbo2, hb20⟩
    have hzE := hb20
    have hl := Lib.hid ((hl.out.below hb20).mono hb20.size)
    have hu := Lib.hid ((hu.out.below hb20).mono hb20.size)
    have hv' := Lib.hid ((hv'.out.below hb20).mono hb20.size)
    have hco := Lib.hid ((hco.out.below hb20).mono hb20.size)
    have b5 := Lib.hid (blk_lift hb20 b5.out)
    have bf := Lib.hid (blk_lift hb20 bf.out)
    have b9 := Lib.hid (blk_lift hb20 b9.out)
    have hA2 := Lib.hid ((hA2.out.below hb20).mono hb20.size)
    have b11 := Lib.hid (blk_lift hb20 b11.out)
    have ch20 := (ch19).trans (hb20.mono (ch19).size)
    clear ch19
    clear hb20
    go_wp2_with fail
    refine (rstepOk_at3 (B := T) hbo2.out (Nat.le_refl _) (fit_good hf) hv (by have := he.out; have := (fitsB_iff hf).1; show n.toNat ≠ l.length; omega) hst).mono ?_
    rintro e w21 ⟨rfl, hst', hbT⟩
    have hbA : Below w18.heap.size w18 w21 := (hzD.trans (hzE.mono hzD.size)).trans (hbT.mono hT)
    clear hzD hzE
    have b11 := b11R
    have hA2 := hA2R
    have b11 := Lib.hid (blk_lift hbA b11.out)
    have hA2 := Lib.hid ((hA2.out.below hbA).mono hbA.size)
    have ch21 := (chR).trans (hbA.mono (chR).size)
    clear chR
    clear hbA
    have KEEP := Lib.hid (box2_keep b11.out)
    have kT := Lib.hid (rtext_hid (w := w21) s'.pos rfl hg)
    have kS := Lib.hid (sameState_hid (w := w21) (n := s'.pos) hA2.out)
    have kA := Lib.hid (awake_hid w21)
    go_wp2
    go_region_held3 (fun w' => w'.cell? ⟨w11.heap.size, 0, none⟩ = some (.int .i64 s'.pos) ∧ w'.cell? ⟨w11.heap.size, 1, none⟩ = some (.slice a2 32 c2))
      (with_reducible (first | exact KEEP.out _ (hzf.alloc hzf.size _) | exact KEEP.out _ (hzf.alloc hzf.size _).drew | exact KEEP.out _ hzf | exact KEEP.out _ hzf.drew | exact KEEP.out _ (hzd.alloc hzd.size _) | exact KEEP.out _ (hzd.alloc hzd.size _).drew | exact KEEP.out _ hzd | exact KEEP.out _ hzd.drew | exact KEEP.out _ (hzc.alloc hzc.size _) | exact KEEP.out _ (hzc.alloc hzc.size _).drew | exact KEEP.out _ hzc | exact KEEP.out _ hzc.drew | exact KEEP.out _ (Below.refl _ _) | exact KEEP.out _ (Below.refl _ _).drew | exact KEEP.out _ (alloc_below _ _) | exact KEEP.out _ (alloc_below _ _).drew | fail "keep"))
      ((first
        | ((with_reducible refine (kT.out _ gs (by first | exact hst'.out | exact st_drew hst'.out) (by first | exact Below.refl _ _ | exact (Below.refl _ _).drew)).mono ?_); rintro e wc ⟨x1, rfl, hx1, hzc⟩)
        | ((with_reducible refine (kS.out _ x1 hx1.out hzc).mono ?_); rintro e wf ⟨rfl, hzd⟩)
        | ((with_reducible refine (kA.out _ hzd).mono ?_); rintro e w22 ⟨rfl, hzf⟩)
        | (fail "arm")))
    have b11 := Lib.hid (blk_lift hzf b11.out)
    have hA2 := Lib.hid ((hA2.out.below hzf).mono hzf.size)
    have ch22 := (ch21).trans (hzf.mono (ch21).size)
    clear ch21
    go_wp2
    go_ret
    exact ⟨rfl, ch22⟩)

theorem law_RunSteps {w : World} (v : Value) (l : List Ins) (hl : InsRow w w.heap.size v l) (s : ByteArray) (hs : s.size ≤ 140737488355328) (n : Int) (u : Value) (L : List ByteArray) (hn : i64 n) (hu : StrRow w w.heap.size u L) (hz : L.length ≤ 8796093022208) :
    Calls Try.prog 15 #[v, .string s, .agg #[.int .i64 n, u]] w fun e w' => e = .returned (.bool true) ∧ Below w.heap.size w w' := by
  obtain ⟨au, cu, rfl⟩ := hu.len
  have HLL : Hid (L.length = L.length) := Lib.hid rfl
  cases hv : validB l
  · exact law_RunSteps_i v l hl s hs n au _ cu L HLL hn hz hu hv
  · have hstep : ∀ (hf : fitsB n l.length L = true) (s' : St), stepP l ⟨n.toNat, L.map toTr⟩ = some s' → Good l.length s' := fun hf s' h => (fit_good hf).step (validB_all hv) h
    cases hx : isTree s
    · cases hf : fitsB n l.length L
      · exact law_RunSteps_vybad v l hl s hs hx n au _ cu L HLL hn hz hu hv hf
      · by_cases he : n = l.length
        · exact law_RunSteps_vyend v l hl s hs hx n au _ cu L HLL hn hz hu hv hf (Lib.hid he)
        · cases hst : stepP l ⟨n.toNat, L.map toTr⟩ with
          | none => exact law_RunSteps_vybig v l hl s hs hx n au _ cu L HLL hn hz hu hv hf (Lib.hid he) hst
          | some s' => exact law_RunSteps_vyok v l hl s hs hx n au _ cu L HLL hn hz hu hv hf (Lib.hid he) s' (hstep hf s' hst) hst
    · obtain ⟨t, rfl, ht⟩ := isTree_get hx
      cases hf : fitsB n l.length L
      · exact law_RunSteps_vxbad v l hl t ht hs hx n au _ cu L HLL hn hz hu hv hf
      · by_cases he : n = l.length
        · exact law_RunSteps_vxend v l hl t ht hs hx n au _ cu L HLL hn hz hu hv hf (Lib.hid he)
        · cases hst : stepP l ⟨n.toNat, L.map toTr⟩ with
          | none => exact law_RunSteps_vxbig v l hl t ht hs hx n au _ cu L HLL hn hz hu hv hf (Lib.hid he) hst
          | some s' => exact law_RunSteps_vxok v l hl t ht hs hx n au _ cu L HLL hn hz hu hv hf (Lib.hid he) s' (hstep hf s' hst) hst

end Go.Proofs.Ytieocihlkpipmaa

namespace Go.Proofs.Ytieocihlkpipmaa
open Go.RowKit

def occK (l : List Ins) (k r : Nat) : Bool := (l.take k).any fun x => x.op != 5 && x.a == (r : Int)
def occV (l : List Ins) (k : Nat) : List Value := (List.range 32).map fun r => .bool (occK l k r)
theorem occV_len (l : List Ins) (k : Nat) : (occV l k).length = 32 := by simp [occV]
theorem occV_get (l : List Ins) (k : Nat) {r : Nat} (hr : r < 32) : (occV l k)[r]? = some (.bool (occK l k r)) := by
  unfold occV; rw [List.getElem?_map, List.getElem?_range hr]; rfl
theorem occK_succ (l : List Ins) (k : Nat) {x : Ins} (hx : l[k]? = some x) (r : Nat) : occK l (k + 1) r = (occK l k r || (x.op != 5 && x.a == (r : Int))) := by
  unfold occK; rw [take_snoc' _ _ _ hx, List.any_append]; simp
theorem occV_succ {l : List Ins} {k : Nat} {x : Ins} (hx : l[k]? = some x) (ho : x.op ≠ 5) {ra : Nat} (ha : x.a = ra) : (occV l k).set ra (.bool true) = occV l (k + 1) := by
  apply List.ext_getElem?
  intro r
  rw [List.getElem?_set, occV_len]
  by_cases hr : r < 32
  · rw [occV_get l k hr, occV_get l (k + 1) hr, occK_succ l k hx, ha]
    by_cases h : ra = r
    · subst h; rw [if_pos rfl, if_pos hr]; simp [ho]
    · rw [if_neg h]
      have : ((ra : Int) == (r : Int)) = false := by simp; omega
      simp [this]
  · rw [List.getElem?_eq_none (by rw [occV_len]; omega), List.getElem?_eq_none (by rw [occV_len]; omega)]
    by_cases h : ra = r
    · rw [if_pos h, if_neg (by omega)]
    · rw [if_neg h]
theorem occV_skip {l : List Ins} {k : Nat} {x : Ins} (hx : l[k]? = some x) (ho : x.op = 5) : occV l (k + 1) = occV l k := by
  unfold occV
  congr 1
  funext r
  rw [occK_succ l k hx, ho]; simp
theorem occV_zero (l : List Ins) : occV l 0 = List.replicate 32 (.bool false) := by unfold occV occK; rfl

theorem step_touch {l : List Ins} {s s' : St} (hv : rightAll l = true) (hs : stepP l s = some s') : s'.regs = s.regs ∨ ∃ (a : Nat) (t : Tr), occK l l.length a = true ∧ s'.regs = s.regs.set a t := by
  unfold stepP at hs
  cases hx : l[s.pos]? with
  | none => rw [hx] at hs; cases hs
  | some x =>
    rw [hx] at hs
    have hr := rightAll_get hv hx
    unfold rightB at hr
    simp only [Bool.and_eq_true] at hr
    obtain ⟨a, ha, ha2⟩ := regB_nat hr.1.1.1
    have hocc : x.op ≠ 5 → occK l l.length a = true := fun ho => by
      unfold occK
      rw [List.take_of_length_le (Nat.le_refl _), List.any_eq_true]
      exact ⟨x, List.mem_of_getElem? hx, by simp [ho, ha]⟩
    have hn : x.a.toNat = a := by omega
    have hs : stepX x s = some s' := hs
    unfold stepX setR at hs
    rw [hn] at hs
    by_cases h0 : x.op = 0
    · rw [if_pos h0] at hs; cases hs; exact .inr ⟨a, _, hocc (by omega), rfl⟩
    rw [if_neg h0] at hs
    by_cases h1 : x.op = 1
    · rw [if_pos h1] at hs; cases hs; exact .inr ⟨a, _, hocc (by omega), rfl⟩
    rw [if_neg h1] at hs
    by_cases h2 : x.op = 2
    · rw [if_pos h2] at hs
      split at hs
      · cases hs; exact .inr ⟨a, _, hocc (by omega), rfl⟩
      · cases hs
    rw [if_neg h2] at hs
    by_cases h3 : x.op = 3
    · rw [if_pos h3] at hs; cases hs; exact .inr ⟨a, _, hocc (by omega), rfl⟩
    rw [if_neg h3] at hs
    by_cases h4 : x.op = 4
    · rw [if_pos h4] at hs; cases hs; exact .inr ⟨a, _, hocc (by omega), rfl⟩
    rw [if_neg h4] at hs
    split at hs <;> (cases hs; exact .inl rfl)
theorem touch {l : List Ins} {n : Nat} {L : List ByteArray} {s' : St} (hv : rightAll l = true) (hall : L.all isTree = true) (hs : stepP l ⟨n, L.map toTr⟩ = some s') :
    ∃ a : Nat, ∀ (r : Nat) (x y : ByteArray), (s'.regs.map TS)[r]? = some x → L[r]? = some y → x ≠ y → r = a ∧ occK l l.length r = true := by
  have hback : ∀ (r : Nat) (x y : ByteArray), ((L.map toTr).map TS)[r]? = some x → L[r]? = some y → x = y := fun r x y hx hy => by
    rw [List.map_map, List.getElem?_map, hy] at hx
    simp only [Option.map_some, Option.some.injEq, Function.comp_apply] at hx
    rw [← hx]; exact TS_toTr (List.all_eq_true.1 hall y (List.mem_of_getElem? hy))
  rcases step_touch hv hs with h | ⟨a, t, ho, h⟩
  · exact ⟨0, fun r x y hx hy hne => absurd (hback r x y (by rw [h] at hx; exact hx) hy) hne⟩
  · refine ⟨a, fun r x y hx hy hne => ?_⟩
    by_cases hra : r = a
    · exact ⟨hra, by rw [hra]; exact ho⟩
    · refine absurd (hback r x y ?_ hy) hne
      rw [h, List.map_set, List.getElem?_set_ne (fun e => hra e.symm)] at hx
      exact hx
theorem el_bool : ElemT Try.prog 71 4 (.bool false) 1 1 := ⟨Try.underlying71, by kernel_rfl, rfl, by decide⟩
theorem make_bools (w : World) : (Instr.makeSlice 71 (.int .i64 32) (.int .i64 32)).run Try.prog w = .ok (.slice (some ⟨w.heap.size, 0, none⟩) 32 32) (w.alloc (.cells (List.replicate 32 (.bool false)).toArray 4)) := by
  obtain ⟨i, hi, hz, hsize, hbytes⟩ := info_parts el_bool.hi
  have h := run_make (P := Try.prog) w 71 4 i (.bool false) el_bool.ht hi hz .i64 .i64 32 32 (by omega) (by omega) (by rw [hbytes]; omega) (by omega)
  rw [h, hsize, show madeCells (Value.bool false).cells (Int.toNat 32 * 1) = (List.replicate 32 (.bool false)).toArray by kernel_rfl]
  rfl
/-- What occurs in the first k instructions is noted. -/
structure TouchP (w : World) (l : List Ins) (k : Nat) (W : World) : Prop where
  blk : W.heap[w.heap.size]? = some (.cells (occV l k).toArray 4 (0, 0))
  b : Below w.heap.size w W
theorem InsRow.below8 {A B : World} {v : Value} {l : List Ins} (h : InsRow A A.heap.size v l) (hb : Below A.heap.size A B) : InsRow B B.heap.size v l := (h.below hb).mono hb.size
theorem StrRow.below8 {A B : World} {v : Value} {l : List ByteArray} (h : StrRow A A.heap.size v l) (hb : Below A.heap.size A B) : StrRow B B.heap.size v l := (h.below hb).mono hb.size
theorem TouchP.zero (w : World) (l : List Ins) : TouchP w l 0 (w.alloc (.cells (List.replicate 32 (.bool false)).toArray 4)) := ⟨by rw [occV_zero]; exact heap_alloc_new w _, (Below.refl _ _).alloc (Nat.le_refl _) _⟩
theorem TouchP.cell {w : World} {l : List Ins} {k : Nat} {W : World} (h : TouchP w l k W) {r : Nat} (hr : r < 32) : W.cell? ⟨w.heap.size, r, none⟩ = some (.bool (occK l k r)) ∧ W.frozen? ⟨w.heap.size, r, none⟩ = false := by
  have := block_cells h.blk
  exact ⟨by rw [this.1 r, List.getElem?_toArray, occV_get l k hr], this.2 r⟩
theorem TouchP.set {w : World} {l : List Ins} {k : Nat} {W : World} (h : TouchP w l k W) {x : Ins} (hx : l[k]? = some x) (ho : x.op ≠ 5) {ra : Nat} (ha : x.a = ra) : TouchP w l (k + 1) (W.setCell ⟨w.heap.size, ra, none⟩ (.bool true)) := by
  have := set_blk h.blk ra (.bool true)
  rw [List.setIfInBounds_toArray, occV_succ hx ho ha] at this
  exact ⟨this, h.b.setCell (p := ⟨w.heap.size, ra, none⟩) (Nat.le_refl _) _⟩
theorem TouchP.skip {w : World} {l : List Ins} {k : Nat} {W : World} (h : TouchP w l k W) {x : Ins} (hx : l[k]? = some x) (ho : x.op = 5) : TouchP w l (k + 1) W := ⟨by rw [occV_skip hx ho]; exact h.blk, h.b⟩

set_option maxRecDepth 100000 in
set_option maxHeartbeats 8000000 in
theorem law_RunTouches_i {w : World} (v : Value) (l : List Ins) (hl : InsRow w w.heap.size v l) (n : Int) (au : Option Addr) (LL cu : Nat) (L : List ByteArray) (HLL : Hid (L.length = LL)) (hn : i64 n) (hz : L.length ≤ 8796093022208) (hu : StrRow w w.heap.size (.slice au LL cu) L) (hv : validB l = false) :
    Calls Try.prog 11 #[v, .agg #[.int .i64 n, .slice au LL cu]] w fun e w' => e = .returned (.bool true) ∧ Below w.heap.size w w' := by
  have hl := Lib.hid hl
  have hu := Lib.hid hu
  obtain ⟨W0, hW0⟩ : ∃ W0, w.alloc (.cells #[.int .i64 n, .slice au LL cu] 53) = W0 := ⟨_, rfl⟩
  have hq0 : Below w.heap.size w W0 := by rw [← hW0]; exact alloc_below _ _
  have b3 := Lib.hid (show W0.heap[w.heap.size]? = some (.cells #[.int .i64 n, .slice au LL cu] 53 (0, 0)) by rw [← hW0]; exact box2_new _ _ _ _)
  have hl := Lib.hid ((hl.out.below hq0).mono hq0.size)
  have hu := Lib.hid ((hu.out.below hq0).mono hq0.size)
  have hlt0 := Lib.hid (show w.heap.size < W0.heap.size by rw [← hW0]; simp)
  go_enter Try.func11, Try.ntmps11
  go_wp2_with fail
  clear hW0
  have hl0 := hl
  refine (cvalid_at false hv hl.out).mono ?_
  rintro e w1 ⟨rfl, hb1⟩
  have hl := Lib.hid ((hl.out.below hb1).mono hb1.size)
  have hu := Lib.hid ((hu.out.below hb1).mono hb1.size)
  have b3 := Lib.hid (blk_lift hb1 b3.out)
  have ch1 := (hq0).trans (hb1.mono (hq0).size)
  clear hq0
  clear hb1
  clear hl0
  go_wp2_with fail
  refine (awake03 _).mono ?_
  rintro e w2 ⟨rfl, hb2⟩
  have hl := Lib.hid ((hl.out.below hb2).mono hb2.size)
  have hu := Lib.hid ((hu.out.below hb2).mono hb2.size)
  have b3 := Lib.hid (blk_lift hb2 b3.out)
  have ch2 := (ch1).trans (hb2.mono (ch1).size)
  clear ch1
  clear hb2
  go_wp2
  go_ret
  exact ⟨rfl, ch2⟩

set_option maxRecDepth 100000 in
set_option maxHeartbeats 8000000 in
theorem law_RunTouches_bad {w : World} (v : Value) (l : List Ins) (hl : InsRow w w.heap.size v l) (n : Int) (au : Option Addr) (LL cu : Nat) (L : List ByteArray) (HLL : Hid (L.length = LL)) (hn : i64 n) (hz : L.length ≤ 8796093022208) (hu : StrRow w w.heap.size (.slice au LL cu) L) (hv : validB l = true) (hf : fitsB n l.length L = false) :
    Calls Try.prog 11 #[v, .agg #[.int .i64 n, .slice au LL cu]] w fun e w' => e = .returned (.bool true) ∧ Below w.heap.size w w' := by
  have hl := Lib.hid hl
  have hu := Lib.hid hu
  obtain ⟨W0, hW0⟩ : ∃ W0, w.alloc (.cells #[.int .i64 n, .slice au LL cu] 53) = W0 := ⟨_, rfl⟩
  have hq0 : Below w.heap.size w W0 := by rw [← hW0]; exact alloc_below _ _
  have b3 := Lib.hid (show W0.heap[w.heap.size]? = some (.cells #[.int .i64 n, .slice au LL cu] 53 (0, 0)) by rw [← hW0]; exact box2_new _ _ _ _)
  have hl := Lib.hid ((hl.out.below hq0).mono hq0.size)
  have hu := Lib.hid ((hu.out.below hq0).mono hq0.size)
  have hlt0 := Lib.hid (show w.heap.size < W0.heap.size by rw [← hW0]; simp)
  go_enter Try.func11, Try.ntmps11
  go_wp2_with fail
  clear hW0
  have hl0 := hl
  refine (cvalid_at true hv hl.out).mono ?_
  rintro e w1 ⟨rfl, hb1⟩
  have hl := Lib.hid ((hl.out.below hb1).mono hb1.size)
  have hu := Lib.hid ((hu.out.below hb1).mono hb1.size)
  have b3 := Lib.hid (blk_lift hb1 b3.out)
  have ch1 := (hq0).trans (hb1.mono (hq0).size)
  clear hq0
  clear hb1
  clear hl0
  have e1 := box2 b3.out
  obtain ⟨e1a, e1b⟩ := e1
  go_wp2_with fail
  clear e1a e1b
  refine (fits3_at false hf hn hl.out hu.out).mono ?_
  rintro e w2 ⟨rfl, hb2⟩
  have hl := Lib.hid ((hl.out.below hb2).mono hb2.size)
  have hu := Lib.hid ((hu.out.below hb2).mono hb2.size)
  have b3 := Lib.hid (blk_lift hb2 b3.out)
  have ch2 := (ch1).trans (hb2.mono (ch1).size)
  clear ch1
  clear hb2
  go_wp2_with fail
  refine (awake03 _).mono ?_
  rintro e w3 ⟨rfl, hb3⟩
  have hl := Lib.hid ((hl.out.below hb3).mono hb3.size)
  have hu := Lib.hid ((hu.out.below hb3).mono hb3.size)
  have b3 := Lib.hid (blk_lift hb3 b3.out)
  have ch3 := (ch2).trans (hb3.mono (ch2).size)
  clear ch2
  clear hb3
  go_wp2
  go_ret
  exact ⟨rfl, ch3⟩

set_option maxRecDepth 100000 in
set_option maxHeartbeats 8000000 in
theorem law_RunTouches_end {w : World} (v : Value) (l : List Ins) (hl : InsRow w w.heap.size v l) (n : Int) (au : Option Addr) (LL cu : Nat) (L : List ByteArray) (HLL : Hid (L.length = LL)) (hn : i64 n) (hz : L.length ≤ 8796093022208) (hu : StrRow w w.heap.size (.slice au LL cu) L) (hv : validB l = true) (hf : fitsB n l.length L = true) (he : Hid (n = l.length)) :
    Calls Try.prog 11 #[v, .agg #[.int .i64 n, .slice au LL cu]] w fun e w' => e = .returned (.bool true) ∧ Below w.heap.size w w' := by
  have hl := Lib.hid hl
  have hu := Lib.hid hu
  obtain ⟨W0, hW0⟩ : ∃ W0, w.alloc (.cells #[.int .i64 n, .slice au LL cu] 53) = W0 := ⟨_, rfl⟩
  have hq0 : Below w.heap.size w W0 := by rw [← hW0]; exact alloc_below _ _
  have b3 := Lib.hid (show W0.heap[w.heap.size]? = some (.cells #[.int .i64 n, .slice au LL cu] 53 (0, 0)) by rw [← hW0]; exact box2_new _ _ _ _)
  have hl := Lib.hid ((hl.out.below hq0).mono hq0.size)
  have hu := Lib.hid ((hu.out.below hq0).mono hq0.size)
  have hlt0 := Lib.hid (show w.heap.size < W0.heap.size by rw [← hW0]; simp)
  go_enter Try.func11, Try.ntmps11
  go_wp2_with fail
  clear hW0
  have hl0 := hl
  refine (cvalid_at true hv hl.out).mono ?_
  rintro e w1 ⟨rfl, hb1⟩
  have hl := Lib.hid ((hl.out.below hb1).mono hb1.size)
  have hu := Lib.hid ((hu.out.below hb1).mono hb1.size)
  have b3 := Lib.hid (blk_lift hb1 b3.out)
  have ch1 := (hq0).trans (hb1.mono (hq0).size)
  clear hq0
  clear hb1
  clear hl0
  have e1 := box2 b3.out
  obtain ⟨e1a, e1b⟩ := e1
  go_wp2_with fail
  clear e1a e1b
  refine (fits3_at true hf hn hl.out hu.out).mono ?_
  rintro e w2 ⟨rfl, hb2⟩
  have hl := Lib.hid ((hl.out.below hb2).mono hb2.size)
  have hu := Lib.hid ((hu.out.below hb2).mono hb2.size)
  have b3 := Lib.hid (blk_lift hb2 b3.out)
  have ch2 := (ch1).trans (hb2.mono (ch1).size)
  clear ch1
  clear hb2
  have e1 := box2 b3.out
  obtain ⟨e1a, e1b⟩ := e1
  have hlt2 := Lib.hid (show w.heap.size < w2.heap.size from (Array.getElem?_eq_some_iff.1 b3.out).1)
  have kTw : Hid (∀ w', Below w2.heap.size w2 w' → Calls Try.prog 20 #[v] w' fun e w'' => ∃ v', e = .returned v' ∧ Hid (InsRow w'' w''.heap.size v' l) ∧ Hid (Below w'.heap.size w' w'') ∧ Below w2.heap.size w2 w'') := fun w' hb => (twin_any v l w' ((hl.out.below hb).mono hb.size)).mono fun e w'' ⟨v', h1, h2, h3⟩ => ⟨v', h1, h2, h3, hb.trans (h3.mono hb.size)⟩
  have kCo : Hid (∀ w', Below w2.heap.size w2 w' → Calls Try.prog 48 #[.agg #[.int .i64 n, .slice au LL cu]] w' fun e w'' => ∃ ac cc, e = .returned (.agg #[.int .i64 n, .slice ac LL cc]) ∧ Hid (StrRow w'' w''.heap.size (.slice ac LL cc) L) ∧ Hid (Below w'.heap.size w' w'') ∧ Below w2.heap.size w2 w'') := fun w' hb => by
    refine (copied_any n _ L hz w' ((hu.out.below hb).mono hb.size)).mono ?_
    rintro e w'' ⟨a, c, h1, h2, h3⟩
    rw [HLL.out] at h1 h2
    exact ⟨a, c, h1, h2, h3, hb.trans (h3.mono hb.size)⟩
  have KEEP := Lib.hid (box2_keep b3.out)
  go_wp2
  go_region_held3 (fun w' => w'.cell? ⟨w.heap.size, 0, none⟩ = some (.int .i64 n) ∧ w'.cell? ⟨w.heap.size, 1, none⟩ = some (.slice au LL cu))
    (with_reducible (first | exact KEEP.out _ (hzS.alloc hzS.size _) | exact KEEP.out _ (hzS.alloc hzS.size _).drew | exact KEEP.out _ hzS | exact KEEP.out _ hzS.drew | exact KEEP.out _ (hzC.alloc hzC.size _) | exact KEEP.out _ (hzC.alloc hzC.size _).drew | exact KEEP.out _ hzC | exact KEEP.out _ hzC.drew | exact KEEP.out _ (hzT.alloc hzT.size _) | exact KEEP.out _ (hzT.alloc hzT.size _).drew | exact KEEP.out _ hzT | exact KEEP.out _ hzT.drew | exact KEEP.out _ (Below.refl _ _) | exact KEEP.out _ (Below.refl _ _).drew | exact KEEP.out _ (alloc_below _ _) | exact KEEP.out _ (alloc_below _ _).drew | (have hzR := hzT; have hzQ := hzC; exact KEEP.out _ ((hzS.setCell (by first | exact hzC.size | exact hzT.size | exact Nat.le_refl _) _).setCell (by first | exact hzC.size | exact hzT.size | exact Nat.le_refl _) _)) | (have hzR := hzT; have hzQ := hzC; exact KEEP.out _ ((hzS.setCell (by first | exact hzC.size | exact hzT.size | exact Nat.le_refl _) _).setCell (by first | exact hzC.size | exact hzT.size | exact Nat.le_refl _) _).drew) | fail "keep"))
    ((first
      | ((with_reducible refine (kTw.out _ (by first | exact Below.refl _ _ | exact (Below.refl _ _).drew | exact alloc_below _ _ | exact (alloc_below _ _).drew | exact (Below.refl _ _).drew.alloc (Nat.le_refl _) _)).mono ?_); rintro e wT ⟨v', rfl, hv', hlT, hzT⟩)
      | ((with_reducible refine (kCo.out _ (by first | exact hzT | exact hzT.alloc hzT.size _)).mono ?_); rintro e wC ⟨ac, cc, rfl, hco, hlC, hzC⟩; (have hv2 := Lib.hid (show InsRow wC wC.heap.size v' l from by first | exact (hv'.out.below hlC.out).mono hlC.out.size | exact (((hv'.out.below (alloc_below _ _)).mono (alloc_below _ _).size).below hlC.out).mono hlC.out.size)))
      | ((first | ((with_reducible refine (step_end_at hv hf he.out hv2.out hco.out).mono ?_); rintro e wS ⟨rfl, hlS⟩; have hzS := hzC.trans (hlS.mono hzC.size)) | ((with_reducible refine (step_end_at hv hf he.out ((hv2.out.below (alloc_below _ _)).mono (alloc_below _ _).size) ((hco.out.below (alloc_below _ _)).mono (alloc_below _ _).size)).mono ?_); rintro e wS ⟨rfl, hlS⟩; have hzS := (hzC.alloc hzC.size _).trans (hlS.mono (hzC.alloc hzC.size _).size))); (first | (have hb8 := blk_lift hlS (box2_new wC _ _ _); obtain ⟨k80, k81, k82, k83⟩ := box4 hb8; have hb28 := Lib.hid hb8; clear hb8) | (have hb8 := blk_lift hlS (blk_lift hlC.out (box2_new wT _ _ _)); obtain ⟨k80, k81, k82, k83⟩ := box4 hb8; have hb28 := Lib.hid hb8; clear hb8) | (have hb8 := blk_lift hlS (blk_lift hlC.out (blk_lift hlT.out (box2_new w2 _ _ _))); obtain ⟨k80, k81, k82, k83⟩ := box4 hb8; have hb28 := Lib.hid hb8; clear hb8) | (have hb8 := blk_lift hlS (blk_lift hlC.out (blk_lift_drew hlT.out (box2_new w2 _ _ _))); obtain ⟨k80, k81, k82, k83⟩ := box4 hb8; have hb28 := Lib.hid hb8; clear hb8) | (have hb8 := blk_lift hlS (blk_lift hlC.out (blk_lift hlT.out (blk_lift (Below.refl _ _).drew (box2_new w2 _ _ _)))); obtain ⟨k80, k81, k82, k83⟩ := box4 hb8; have hb28 := Lib.hid hb8; clear hb8) | skip))
      | (fail "arm")))
  all_goals (
  have hzS := (hzS)
  go_wp2_with fail
  refine (awake03 _).mono ?_
  rintro e wZ ⟨rfl, hbZ⟩
  go_wp2
  go_ret
  have hzY : Below w2.heap.size w2 wZ := by first | exact (hzS.alloc hzS.size _).trans (hbZ.mono (hzS.alloc hzS.size _).size) | exact ((hzS.setCell (by first | exact hzC.size | exact hzT.size | exact Nat.le_refl _) _).setCell (by first | exact hzC.size | exact hzT.size | exact Nat.le_refl _) _).trans (hbZ.mono ((hzS.setCell (by first | exact hzC.size | exact hzT.size | exact Nat.le_refl _) _).setCell (by first | exact hzC.size | exact hzT.size | exact Nat.le_refl _) _).size)
  exact ⟨rfl, ch2.trans (hzY.mono (ch2).size)⟩)

set_option maxRecDepth 100000 in
set_option maxHeartbeats 8000000 in
theorem law_RunTouches_big {w : World} (v : Value) (l : List Ins) (hl : InsRow w w.heap.size v l) (n : Int) (au : Option Addr) (LL cu : Nat) (L : List ByteArray) (HLL : Hid (L.length = LL)) (hn : i64 n) (hz : L.length ≤ 8796093022208) (hu : StrRow w w.heap.size (.slice au LL cu) L) (hv : validB l = true) (hf : fitsB n l.length L = true) (he : Hid (n ≠ l.length)) (hst : stepP l ⟨n.toNat, L.map toTr⟩ = none) :
    Calls Try.prog 11 #[v, .agg #[.int .i64 n, .slice au LL cu]] w fun e w' => e = .returned (.bool true) ∧ Below w.heap.size w w' := by
  have hl := Lib.hid hl
  have hu := Lib.hid hu
  obtain ⟨W0, hW0⟩ : ∃ W0, w.alloc (.cells #[.int .i64 n, .slice au LL cu] 53) = W0 := ⟨_, rfl⟩
  have hq0 : Below w.heap.size w W0 := by rw [← hW0]; exact alloc_below _ _
  have b3 := Lib.hid (show W0.heap[w.heap.size]? = some (.cells #[.int .i64 n, .slice au LL cu] 53 (0, 0)) by rw [← hW0]; exact box2_new _ _ _ _)
  have hl := Lib.hid ((hl.out.below hq0).mono hq0.size)
  have hu := Lib.hid ((hu.out.below hq0).mono hq0.size)
  have hlt0 := Lib.hid (show w.heap.size < W0.heap.size by rw [← hW0]; simp)
  go_enter Try.func11, Try.ntmps11
  go_wp2_with fail
  clear hW0
  have hl0 := hl
  refine (cvalid_at true hv hl.out).mono ?_
  rintro e w1 ⟨rfl, hb1⟩
  have hl := Lib.hid ((hl.out.below hb1).mono hb1.size)
  have hu := Lib.hid ((hu.out.below hb1).mono hb1.size)
  have b3 := Lib.hid (blk_lift hb1 b3.out)
  have ch1 := (hq0).trans (hb1.mono (hq0).size)
  clear hq0
  clear hb1
  clear hl0
  have e1 := box2 b3.out
  obtain ⟨e1a, e1b⟩ := e1
  go_wp2_with fail
  clear e1a e1b
  refine (fits3_at true hf hn hl.out hu.out).mono ?_
  rintro e w2 ⟨rfl, hb2⟩
  have hl := Lib.hid ((hl.out.below hb2).mono hb2.size)
  have hu := Lib.hid ((hu.out.below hb2).mono hb2.size)
  have b3 := Lib.hid (blk_lift hb2 b3.out)
  have ch2 := (ch1).trans (hb2.mono (ch1).size)
  clear ch1
  clear hb2
  have e1 := box2 b3.out
  obtain ⟨e1a, e1b⟩ := e1
  have hlt2 := Lib.hid (show w.heap.size < w2.heap.size from (Array.getElem?_eq_some_iff.1 b3.out).1)
  have kTw : Hid (∀ w', Below w2.heap.size w2 w' → Calls Try.prog 20 #[v] w' fun e w'' => ∃ v', e = .returned v' ∧ Hid (InsRow w'' w''.heap.size v' l) ∧ Hid (Below w'.heap.size w' w'') ∧ Below w2.heap.size w2 w'') := fun w' hb => (twin_any v l w' ((hl.out.below hb).mono hb.size)).mono fun e w'' ⟨v', h1, h2, h3⟩ => ⟨v', h1, h2, h3, hb.trans (h3.mono hb.size)⟩
  have kCo : Hid (∀ w', Below w2.heap.size w2 w' → Calls Try.prog 48 #[.agg #[.int .i64 n, .slice au LL cu]] w' fun e w'' => ∃ ac cc, e = .returned (.agg #[.int .i64 n, .slice ac LL cc]) ∧ Hid (StrRow w'' w''.heap.size (.slice ac LL cc) L) ∧ Hid (Below w'.heap.size w' w'') ∧ Below w2.heap.size w2 w'') := fun w' hb => by
    refine (copied_any n _ L hz w' ((hu.out.below hb).mono hb.size)).mono ?_
    rintro e w'' ⟨a, c, h1, h2, h3⟩
    rw [HLL.out] at h1 h2
    exact ⟨a, c, h1, h2, h3, hb.trans (h3.mono hb.size)⟩
  have KEEP := Lib.hid (box2_keep b3.out)
  go_wp2
  go_region_held3 (fun w' => w'.cell? ⟨w.heap.size, 0, none⟩ = some (.int .i64 n) ∧ w'.cell? ⟨w.heap.size, 1, none⟩ = some (.slice au LL cu))
    (with_reducible (first | exact KEEP.out _ (hzS.alloc hzS.size _) | exact KEEP.out _ (hzS.alloc hzS.size _).drew | exact KEEP.out _ hzS | exact KEEP.out _ hzS.drew | exact KEEP.out _ (hzC.alloc hzC.size _) | exact KEEP.out _ (hzC.alloc hzC.size _).drew | exact KEEP.out _ hzC | exact KEEP.out _ hzC.drew | exact KEEP.out _ (hzT.alloc hzT.size _) | exact KEEP.out _ (hzT.alloc hzT.size _).drew | exact KEEP.out _ hzT | exact KEEP.out _ hzT.drew | exact KEEP.out _ (Below.refl _ _) | exact KEEP.out _ (Below.refl _ _).drew | exact KEEP.out _ (alloc_below _ _) | exact KEEP.out _ (alloc_below _ _).drew | (have hzR := hzT; have hzQ := hzC; exact KEEP.out _ ((hzS.setCell (by first | exact hzC.size | exact hzT.size | exact Nat.le_refl _) _).setCell (by first | exact hzC.size | exact hzT.size | exact Nat.le_refl _) _)) | (have hzR := hzT; have hzQ := hzC; exact KEEP.out _ ((hzS.setCell (by first | exact hzC.size | exact hzT.size | exact Nat.le_refl _) _).setCell (by first | exact hzC.size | exact hzT.size | exact Nat.le_refl _) _).drew) | fail "keep"))
    ((first
      | ((with_reducible refine (kTw.out _ (by first | exact Below.refl _ _ | exact (Below.refl _ _).drew | exact alloc_below _ _ | exact (alloc_below _ _).drew | exact (Below.refl _ _).drew.alloc (Nat.le_refl _) _)).mono ?_); rintro e wT ⟨v', rfl, hv', hlT, hzT⟩)
      | ((with_reducible refine (kCo.out _ (by first | exact hzT | exact hzT.alloc hzT.size _)).mono ?_); rintro e wC ⟨ac, cc, rfl, hco, hlC, hzC⟩; (have hv2 := Lib.hid (show InsRow wC wC.heap.size v' l from by first | exact (hv'.out.below hlC.out).mono hlC.out.size | exact (((hv'.out.below (alloc_below _ _)).mono (alloc_below _ _).size).below hlC.out).mono hlC.out.size)))
      | ((first | ((with_reducible refine (step_big_at hv hf he.out hst hv2.out hco.out).mono ?_); rintro e wS ⟨rfl, hlS⟩; have hzS := hzC.trans (hlS.mono hzC.size)) | ((with_reducible refine (step_big_at hv hf he.out hst ((hv2.out.below (alloc_below _ _)).mono (alloc_below _ _).size) ((hco.out.below (alloc_below _ _)).mono (alloc_below _ _).size)).mono ?_); rintro e wS ⟨rfl, hlS⟩; have hzS := (hzC.alloc hzC.size _).trans (hlS.mono (hzC.alloc hzC.size _).size))); (first | (have hb8 := blk_lift hlS (box2_new wC _ _ _); obtain ⟨k80, k81, k82, k83⟩ := box4 hb8; have hb28 := Lib.hid hb8; clear hb8) | (have hb8 := blk_lift hlS (blk_lift hlC.out (box2_new wT _ _ _)); obtain ⟨k80, k81, k82, k83⟩ := box4 hb8; have hb28 := Lib.hid hb8; clear hb8) | (have hb8 := blk_lift hlS (blk_lift hlC.out (blk_lift hlT.out (box2_new w2 _ _ _))); obtain ⟨k80, k81, k82, k83⟩ := box4 hb8; have hb28 := Lib.hid hb8; clear hb8) | (have hb8 := blk_lift hlS (blk_lift hlC.out (blk_lift_drew hlT.out (box2_new w2 _ _ _))); obtain ⟨k80, k81, k82, k83⟩ := box4 hb8; have hb28 := Lib.hid hb8; clear hb8) | (have hb8 := blk_lift hlS (blk_lift hlC.out (blk_lift hlT.out (blk_lift (Below.refl _ _).drew (box2_new w2 _ _ _)))); obtain ⟨k80, k81, k82, k83⟩ := box4 hb8; have hb28 := Lib.hid hb8; clear hb8) | skip))
      | (fail "arm")))
  all_goals (
  have hzS := (hzS)
  go_wp2_with fail
  refine (awake03 _).mono ?_
  rintro e wZ ⟨rfl, hbZ⟩
  go_wp2
  go_ret
  have hzY : Below w2.heap.size w2 wZ := by first | exact (hzS.alloc hzS.size _).trans (hbZ.mono (hzS.alloc hzS.size _).size) | exact ((hzS.setCell (by first | exact hzC.size | exact hzT.size | exact Nat.le_refl _) _).setCell (by first | exact hzC.size | exact hzT.size | exact Nat.le_refl _) _).trans (hbZ.mono ((hzS.setCell (by first | exact hzC.size | exact hzT.size | exact Nat.le_refl _) _).setCell (by first | exact hzC.size | exact hzT.size | exact Nat.le_refl _) _).size)
  exact ⟨rfl, ch2.trans (hzY.mono (ch2).size)⟩)

set_option maxRecDepth 100000 in
set_option maxHeartbeats 8000000 in
theorem law_RunTouches_ok {w : World} (v : Value) (l : List Ins) (hl : InsRow w w.heap.size v l) (n : Int) (au : Option Addr) (cu : Nat) (L : List ByteArray) (HLL : Hid (L.length = 32)) (hn : i64 n) (hz : L.length ≤ 8796093022208) (hu : StrRow w w.heap.size (.slice au 32 cu) L) (hv : validB l = true) (hf : fitsB n l.length L = true) (he : Hid (n ≠ l.length)) (s' : St) (hg : Good l.length s') (hst : stepP l ⟨n.toNat, L.map toTr⟩ = some s') (a : Nat) (hta : Hid (∀ (r : Nat) (x y : ByteArray), (s'.regs.map TS)[r]? = some x → L[r]? = some y → x ≠ y → r = a ∧ occK l l.length r = true)) :
    Calls Try.prog 11 #[v, .agg #[.int .i64 n, .slice au 32 cu]] w fun e w' => e = .returned (.bool true) ∧ Below w.heap.size w w' := by
  have hl := Lib.hid hl
  have hu := Lib.hid hu
  obtain ⟨W0, hW0⟩ : ∃ W0, w.alloc (.cells #[.int .i64 n, .slice au 32 cu] 53) = W0 := ⟨_, rfl⟩
  have hq0 : Below w.heap.size w W0 := by rw [← hW0]; exact alloc_below _ _
  have b3 := Lib.hid (show W0.heap[w.heap.size]? = some (.cells #[.int .i64 n, .slice au 32 cu] 53 (0, 0)) by rw [← hW0]; exact box2_new _ _ _ _)
  have hl := Lib.hid ((hl.out.below hq0).mono hq0.size)
  have hu := Lib.hid ((hu.out.below hq0).mono hq0.size)
  have hlt0 := Lib.hid (show w.heap.size < W0.heap.size by rw [← hW0]; simp)
  have h32 : s'.regs.length = 32 := hg.2.1
  go_enter Try.func11, Try.ntmps11
  go_wp2_with fail
  clear hW0
  have hl0 := hl
  refine (cvalid_at true hv hl.out).mono ?_
  rintro e w1 ⟨rfl, hb1⟩
  have hl := Lib.hid ((hl.out.below hb1).mono hb1.size)
  have hu := Lib.hid ((hu.out.below hb1).mono hb1.size)
  have b3 := Lib.hid (blk_lift hb1 b3.out)
  have ch1 := (hq0).trans (hb1.mono (hq0).size)
  clear hq0
  clear hb1
  clear hl0
  have e1 := box2 b3.out
  obtain ⟨e1a, e1b⟩ := e1
  go_wp2_with fail
  clear e1a e1b
  refine (fits3_at true hf hn hl.out hu.out).mono ?_
  rintro e w2 ⟨rfl, hb2⟩
  have hl := Lib.hid ((hl.out.below hb2).mono hb2.size)
  have hu := Lib.hid ((hu.out.below hb2).mono hb2.size)
  have b3 := Lib.hid (blk_lift hb2 b3.out)
  have ch2 := (ch1).trans (hb2.mono (ch1).size)
  clear ch1
  clear hb2
  have e1 := box2 b3.out
  obtain ⟨e1a, e1b⟩ := e1
  have hlt2 := Lib.hid (show w.heap.size < w2.heap.size from (Array.getElem?_eq_some_iff.1 b3.out).1)
  have kTw : Hid (∀ w', Below w2.heap.size w2 w' → Calls Try.prog 20 #[v] w' fun e w'' => ∃ v', e = .returned v' ∧ Hid (InsRow w'' w''.heap.size v' l) ∧ Hid (Below w'.heap.size w' w'') ∧ Below w2.heap.size w2 w'') := fun w' hb => (twin_any v l w' ((hl.out.below hb).mono hb.size)).mono fun e w'' ⟨v', h1, h2, h3⟩ => ⟨v', h1, h2, h3, hb.trans (h3.mono hb.size)⟩
  have kCo : Hid (∀ w', Below w2.heap.size w2 w' → Calls Try.prog 48 #[.agg #[.int .i64 n, .slice au 32 cu]] w' fun e w'' => ∃ ac cc, e = .returned (.agg #[.int .i64 n, .slice ac 32 cc]) ∧ Hid (StrRow w'' w''.heap.size (.slice ac 32 cc) L) ∧ Hid (Below w'.heap.size w' w'') ∧ Below w2.heap.size w2 w'') := fun w' hb => by
    refine (copied_any n _ L hz w' ((hu.out.below hb).mono hb.size)).mono ?_
    rintro e w'' ⟨a, c, h1, h2, h3⟩
    rw [HLL.out] at h1 h2
    exact ⟨a, c, h1, h2, h3, hb.trans (h3.mono hb.size)⟩
  have KEEP := Lib.hid (box2_keep b3.out)
  go_wp2
  go_region_held3 (fun w' => w'.cell? ⟨w.heap.size, 0, none⟩ = some (.int .i64 n) ∧ w'.cell? ⟨w.heap.size, 1, none⟩ = some (.slice au 32 cu))
    (with_reducible (first | exact KEEP.out _ (hzS.alloc hzS.size _) | exact KEEP.out _ (hzS.alloc hzS.size _).drew | exact KEEP.out _ hzS | exact KEEP.out _ hzS.drew | exact KEEP.out _ (hzC.alloc hzC.size _) | exact KEEP.out _ (hzC.alloc hzC.size _).drew | exact KEEP.out _ hzC | exact KEEP.out _ hzC.drew | exact KEEP.out _ (hzT.alloc hzT.size _) | exact KEEP.out _ (hzT.alloc hzT.size _).drew | exact KEEP.out _ hzT | exact KEEP.out _ hzT.drew | exact KEEP.out _ (Below.refl _ _) | exact KEEP.out _ (Below.refl _ _).drew | exact KEEP.out _ (alloc_below _ _) | exact KEEP.out _ (alloc_below _ _).drew | (have hzR := hzT; have hzQ := hzC; exact KEEP.out _ ((hzS.setCell (by first | exact hzC.size | exact hzT.size | exact Nat.le_refl _) _).setCell (by first | exact hzC.size | exact hzT.size | exact Nat.le_refl _) _)) | (have hzR := hzT; have hzQ := hzC; exact KEEP.out _ ((hzS.setCell (by first | exact hzC.size | exact hzT.size | exact Nat.le_refl _) _).setCell (by first | exact hzC.size | exact hzT.size | exact Nat.le_refl _) _).drew) | fail "keep"))
    ((first
      | ((with_reducible refine (kTw.out _ (by first | exact Below.refl _ _ | exact (Below.refl _ _).drew | exact alloc_below _ _ | exact (alloc_below _ _).drew | exact (Below.refl _ _).drew.alloc (Nat.le_refl _) _)).mono ?_); rintro e wT ⟨v', rfl, hv', hlT, hzT⟩)
      | ((with_reducible refine (kCo.out _ (by first | exact hzT | exact hzT.alloc hzT.size _)).mono ?_); rintro e wC ⟨ac, cc, rfl, hco, hlC, hzC⟩; (have hv2 := Lib.hid (show InsRow wC wC.heap.size v' l from by first | exact (hv'.out.below hlC.out).mono hlC.out.size | exact (((hv'.out.below (alloc_below _ _)).mono (alloc_below _ _).size).below hlC.out).mono hlC.out.size)))
      | ((first | ((with_reducible refine (step_ok_at hv hf he.out h32 hst hv2.out hco.out).mono ?_); rintro e wS ⟨a2, c2, rfl, hA2, hlS⟩; have hzS := hzC.trans (hlS.mono hzC.size)) | ((with_reducible refine (step_ok_at hv hf he.out h32 hst ((hv2.out.below (alloc_below _ _)).mono (alloc_below _ _).size) ((hco.out.below (alloc_below _ _)).mono (alloc_below _ _).size)).mono ?_); rintro e wS ⟨a2, c2, rfl, hA2, hlS⟩; have hzS := (hzC.alloc hzC.size _).trans (hlS.mono (hzC.alloc hzC.size _).size))); (first | (have hb8 := blk_lift hlS (box2_new wC _ _ _); obtain ⟨k80, k81, k82, k83⟩ := box4 hb8; have hb28 := Lib.hid hb8; clear hb8) | (have hb8 := blk_lift hlS (blk_lift hlC.out (box2_new wT _ _ _)); obtain ⟨k80, k81, k82, k83⟩ := box4 hb8; have hb28 := Lib.hid hb8; clear hb8) | (have hb8 := blk_lift hlS (blk_lift hlC.out (blk_lift hlT.out (box2_new w2 _ _ _))); obtain ⟨k80, k81, k82, k83⟩ := box4 hb8; have hb28 := Lib.hid hb8; clear hb8) | (have hb8 := blk_lift hlS (blk_lift hlC.out (blk_lift_drew hlT.out (box2_new w2 _ _ _))); obtain ⟨k80, k81, k82, k83⟩ := box4 hb8; have hb28 := Lib.hid hb8; clear hb8) | (have hb8 := blk_lift hlS (blk_lift hlC.out (blk_lift hlT.out (blk_lift (Below.refl _ _).drew (box2_new w2 _ _ _)))); obtain ⟨k80, k81, k82, k83⟩ := box4 hb8; have hb28 := Lib.hid hb8; clear hb8) | skip))
      | (fail "arm")))
  all_goals (
  (first | (have BF := (BoxFin.set (W0 := w2) (A := wS) (.int .i64 s'.pos) (.slice a2 32 c2) hb28.out (by intro s h; cases h) (by intro s h; cases h) (by first | exact hzC.size | exact hzT.size | exact Nat.le_refl _))) | (have BF := (BoxFin.alloc (W0 := w2) (A := wS) 53 (.int .i64 s'.pos) (.slice a2 32 c2) hzS.size)))
  refine BoxFin.elimW BF ?_
  clear BF
  intro w8 BF
  refine BoxFin.elimB BF.out ?_
  clear BF
  intro b8 BF
  have b3 := Lib.hid (BF.out.blk' hlt2.out (blk_lift hzS b3.out))
  have bf := Lib.hid BF.out.blk
  have hl := Lib.hid (BF.out.ins ((hl.out.below hzS).mono hzS.size))
  have hu := Lib.hid (BF.out.str ((hu.out.below hzS).mono hzS.size))
  have hA2 := Lib.hid (BF.out.str hA2)
  have ch8 := ch2.trans ((BF.out.below hzS).mono (ch2).size)
  clear BF hzS hlS hzC hlC hlT hzT kTw kCo KEEP hco hv2
  clear e1a e1b
  try clear hb28 k80 k81 k82 k83
  obtain ⟨ao, cap, rfl⟩ := hl.out.len
  obtain ⟨N, HN⟩ : ∃ N, Hid (l.length = N) := ⟨_, Lib.hid rfl⟩
  rw [HN.out] at hl ⊢
  have hN4 : N ≤ 4000 := by have h1 := validB_len hv; have h2 := HN.out; omega
  have hmk := make_bools
  have HS := Lib.hid (TouchP.zero w8 l)
  go_wp2
  clear hmk
  go_loopg [8] N (fun gg i wr => ∃ k : Nat, k ≤ N ∧ gg = N - k ∧ i = .int .i64 k ∧ Hid (TouchP w8 l k wr))
  case atStart => exact ⟨0, by omega, rfl, rfl, HS.out⟩
  case round =>
    obtain ⟨k, hk, hgg, rfl, hlp⟩ := hrel
    have HGG := Lib.hid hgg
    clear hgg HS
    by_cases hlt : k < N
    · obtain ⟨y, hy⟩ : ∃ s, l[k]? = some s := ⟨_, List.getElem?_eq_getElem (by rw [HN.out]; exact hlt)⟩
      have hl2 := hl.out.below8 hlp.out.b
      obtain ⟨pg, off, rfl, hpg, p0, p1, p2, p3, p4⟩ := hl2.get hy
      have hr := rightAll_get (validB_all hv) hy
      obtain ⟨ra, hra, hra2⟩ : ∃ r : Nat, y.a = r ∧ r < 32 := by
        unfold rightB at hr
        simp only [Bool.and_eq_true] at hr
        exact regB_nat hr.1.1.1
      have HY := Lib.hid hy
      have hi0 : (0 : Int) ≤ (k : Int) := Int.natCast_nonneg _
      have hi1 : (k : Int) < (N : Int) := by omega
      clear hy hl2 p2 p3 p4 hr
      by_cases ho : y.op = 5
      · have hop : (y.op == 5) = true := by rw [ho]; rfl
        have hnew : Hid (TouchP w8 l (k + 1) wr) := hlp.out.skip HY.out ho
        clear ho
        go_wp2
        go_roundg (N - (k + 1))
        case measure => rw [HGG.out]; omega
        case rel => exact ⟨k + 1, by omega, rfl, by go_num, hnew⟩
      · have hop : (y.op == 5) = false := by rw [beq_eq_false_iff_ne]; exact ho
        have hnew : Hid (TouchP w8 l (k + 1) (wr.setCell ⟨w8.heap.size, ra, none⟩ (.bool true))) := hlp.out.set HY.out ho hra
        obtain ⟨q0, q1⟩ := hlp.out.cell hra2
        rw [hra] at p1
        have hr0 : (0 : Int) ≤ (ra : Int) := Int.natCast_nonneg _
        have hr1 : (ra : Int) < (32 : Int) := by omega
        clear ho hra
        go_wp2
        go_roundg (N - (k + 1))
        case measure => rw [HGG.out]; omega
        case rel => exact ⟨k + 1, by omega, rfl, by go_num, (by first | exact hnew | exact ⟨blk_lift_drew (Below.refl _ _) hnew.out.blk, hnew.out.b.drew⟩)⟩
    · have hkn : k = N := by omega
      subst hkn
      have HT := Lib.hid hlp
      have b3 := Lib.hid (blk_lift hlp.out.b b3.out)
      have bf := Lib.hid (blk_lift hlp.out.b bf.out)
      have hu := Lib.hid (hu.out.below8 hlp.out.b)
      have hA2 := Lib.hid (hA2.out.below8 hlp.out.b)
      have ch := ch8.trans (hlp.out.b.mono ch8.size)
      clear hl ch8 hlp HGG hk hlt
      go_wp2
      go_loopg [9, 10] 32 (fun gg c i wq => ∃ r cc : Nat, r ≤ 32 ∧ gg = 32 - r ∧ i = .int .i64 r ∧ c = .int .i64 cc ∧ (cc = 0 ∨ cc = 1 ∧ a < r) ∧ Below wr.heap.size wr wq)
      case atStart => exact ⟨0, 0, by omega, rfl, rfl, rfl, .inl rfl, Below.refl _ _⟩
      case round =>
        obtain ⟨r, cc, hr, hgg, rfl, rfl, hcc, hbq⟩ := hrel
        have HGG := Lib.hid hgg
        clear hgg
        have e0 := box2 (blk_lift hbq b3.out)
        have e1 := box2 (blk_lift hbq bf.out)
        obtain ⟨e0a, e0b⟩ := e0
        obtain ⟨e1a, e1b⟩ := e1
        by_cases hlt : r < 32
        · obtain ⟨x, hx⟩ : ∃ x, (s'.regs.map TS)[r]? = some x := ⟨_, List.getElem?_eq_getElem (by rw [List.length_map, hg.2.1]; exact hlt)⟩
          obtain ⟨y, hy⟩ : ∃ y, L[r]? = some y := ⟨_, List.getElem?_eq_getElem (by rw [HLL.out]; exact hlt)⟩
          obtain ⟨xg, xo, rfl, hxg, hxc⟩ := (hA2.out.below8 hbq).get hx
          obtain ⟨yg, yo, rfl, hyg, hyc⟩ := (hu.out.below8 hbq).get hy
          have hr0 : (0 : Int) ≤ (r : Int) := Int.natCast_nonneg _
          have hr1 : (r : Int) < (32 : Int) := by omega
          by_cases hxy : x = y
          · have hxy' : (x.toList == y.toList) = true := by rw [hxy]; simp
            clear hx hy hxy
            go_wp2
            go_quiet (fail)
            go_wp2
            go_roundg (32 - (r + 1))
            case measure => rw [HGG.out]; omega
            case rel => exact ⟨r + 1, cc, by omega, rfl, by go_num, rfl, by omega, (by first | exact hbq | exact hbq.drew | exact below_drewN hbq _)⟩
          · obtain ⟨hra0, hoc⟩ := hta.out r x y hx hy hxy
            have hra := Lib.hid hra0
            clear hra0
            have hxy' : (x.toList == y.toList) = false := by rw [beq_eq_false_iff_ne]; exact fun h => hxy (ba_ext (by rw [← Lib.toList_data, ← Lib.toList_data]; exact h))
            rw [HN.out] at hoc
            have hc := (HT.out.cell hlt).1
            rw [hoc] at hc
            have hc' := (hbq.cell (p := ⟨w8.heap.size, r, none⟩) (by have := (Array.getElem?_eq_some_iff.1 HT.out.blk).1; exact this)).trans hc
            have hc0 : cc = 0 := by have := hra.out; omega
            subst hc0
            clear hx hy hxy hoc hc
            go_wp2
            go_quiet (fail)
            go_wp2
            go_roundg (32 - (r + 1))
            case measure => rw [HGG.out]; omega
            case rel => exact ⟨r + 1, 1, by omega, rfl, by go_num, rfl, by have := hra.out; omega, (by first | exact hbq | exact hbq.drew | exact below_drewN hbq _)⟩
        · have hr32 : r = 32 := by omega
          subst hr32
          have hc1 : (cc : Int) ≤ 1 := by omega
          have hp0 : (0 : Int) ≤ (s'.pos : Int) := Int.natCast_nonneg _
          have hp1 : (s'.pos : Int) ≤ (k : Int) := by have := hg.1; rw [HN.out] at this; omega
          go_wp2_with fail
          refine (awake03 _).mono ?_
          rintro e wz ⟨rfl, hbz⟩
          go_wp2
          go_ret
          have h1 := hbq.trans (by first | exact hbz.mono hbq.size | exact (below_of_drew hbz).mono hbq.size)
          exact ⟨rfl, ch.trans (h1.mono ch.size)⟩)

theorem law_RunTouches {w : World} (v : Value) (l : List Ins) (hl : InsRow w w.heap.size v l) (n : Int) (u : Value) (L : List ByteArray) (hn : i64 n) (hu : StrRow w w.heap.size u L) (hz : L.length ≤ 8796093022208) :
    Calls Try.prog 11 #[v, .agg #[.int .i64 n, u]] w fun e w' => e = .returned (.bool true) ∧ Below w.heap.size w w' := by
  obtain ⟨au, cu, rfl⟩ := hu.len
  have HLL : Hid (L.length = L.length) := Lib.hid rfl
  cases hv : validB l
  · exact law_RunTouches_i v l hl n au _ cu L HLL hn hz hu hv
  · cases hf : fitsB n l.length L
    · exact law_RunTouches_bad v l hl n au _ cu L HLL hn hz hu hv hf
    · by_cases he : n = l.length
      · exact law_RunTouches_end v l hl n au _ cu L HLL hn hz hu hv hf (Lib.hid he)
      · cases hst : stepP l ⟨n.toNat, L.map toTr⟩ with
        | none => exact law_RunTouches_big v l hl n au _ cu L HLL hn hz hu hv hf (Lib.hid he) hst
        | some s' =>
          have hg : Good l.length s' := (fit_good hf).step (validB_all hv) hst
          obtain ⟨h0, h1, h2, h3⟩ := fitsB_iff hf
          obtain ⟨a, hta⟩ := touch (validB_all hv) h3 hst
          rw [h2] at hu ⊢
          exact law_RunTouches_ok v l hl n au cu L (Lib.hid h2) hn hz hu hv hf (Lib.hid he) s' hg hst a (Lib.hid hta)

end Go.Proofs.Ytieocihlkpipmaa


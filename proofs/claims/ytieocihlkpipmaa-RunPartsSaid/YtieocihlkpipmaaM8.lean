/- The walks of the laws of narcissuslaw03: RunAfters. Contracts at a world, for walks that go from call to call. The walk of narcissuslaw03.copied. And append of another slice's elements, as a step of a region that draws. -/
import Derived.Test.YtieocihlkpipmaaLaw03c
namespace Go.Proofs.Ytieocihlkpipmaa
open Go.RowKit

set_option maxHeartbeats 1000000 in
theorem none_any (n : Int) (u : Value) (L : List ByteArray) (b : Bool) (hb : ((n == 0) && ((L.length : Int) == 0)) = b) (w : World) (hu : StrRow w w.heap.size u L) :
    Calls Try.prog 39 #[.agg #[.int .i64 n, u]] w fun e w' => e = .returned (.bool b) ∧ Below w.heap.size w w' := by
  obtain ⟨a, c, rfl⟩ := hu.len
  obtain ⟨m, hm⟩ : ∃ m, L.length = m := ⟨_, rfl⟩
  rw [hm] at hb ⊢
  have HB := Lib.hid hb
  clear hu hm hb
  have hb1 := (Below.refl w.heap.size w).alloc (Nat.le_refl _) (.cells #[.int .i64 n, .slice a m c] 53)
  by_cases h0 : n = 0
  · subst h0
    go_enter Try.func39, Try.ntmps39
    go_wp2
    go_ret
    exact ⟨by rw [← HB.out]; simp, hb1⟩
  · have hn : (n == 0) = false := by rw [beq_eq_false_iff_ne]; exact h0
    have hbf : b = false := by rw [← HB.out, hn]; rfl
    clear h0
    go_enter Try.func39, Try.ntmps39
    go_wp2
    go_ret
    exact ⟨by rw [hbf]; rfl, hb1⟩
theorem none_ct {w : World} {n : Int} {u : Value} {L : List ByteArray} (b : Bool) (hb : ((n == 0) && ((L.length : Int) == 0)) = b) (hu : StrRow w w.heap.size u L) : Ct w 39 #[.agg #[.int .i64 n, u]] (.bool b) :=
  Ct.of fun w' hw => none_any n u L b hb w' ((hu.below hw).mono hw.size)
/-- After, relative to a world. -/
def AftCt (w : World) (v : Value) (s : ByteArray) (k : Int) (n : Int) (L : List ByteArray) (LL : Nat) (m : Nat) (er : Int) : Prop :=
  ∀ w', Below w.heap.size w w' → Calls Try.prog 38 #[v, .string s, .int .i64 k] w' fun e w'' => ∃ ua uc, e = .returned (.tuple #[.agg #[.int .i64 n, .slice ua LL uc], .int .i64 m, .int .i64 er]) ∧ Hid (StrRow w'' w''.heap.size (.slice ua LL uc) L) ∧ Below w.heap.size w w''
theorem aft_ct {w : World} {v : Value} {s : ByteArray} {k n : Int} {L : List ByteArray} {LL m : Nat} {er : Int} (hL : L.length = LL) (h : ∀ w', Below w.heap.size w w' → Calls Try.prog 38 #[v, .string s, .int .i64 k] w' (AftOut w' n L m er)) : AftCt w v s k n L LL m er := fun w' hb =>
  (h w' hb).mono fun e w'' ⟨u, h1, h2, h3⟩ => by
    obtain ⟨ua, uc, rfl⟩ := h2.len
    rw [hL] at h1 h2
    exact ⟨ua, uc, h1, h2, hb.trans (h3.mono hb.size)⟩
theorem aft_form_ct {w : World} {v : Value} {l : List Ins} (hl : InsRow w w.heap.size v l) (s : ByteArray) (hs : s.size ≤ 140737488355328) (k : Int) (h : validB l = false ∨ isTree s = false) : AftCt w v s k 0 [] 0 0 1 :=
  aft_ct rfl fun w' hb => after_bad v l s k w' 1 ((hl.below hb).mono hb.size) (.inl rfl) (fun w2 h2 => begin_form v l s k w2 h2 hs h)
theorem aft_arg_ct {w : World} {v : Value} {l : List Ins} (hl : InsRow w w.heap.size v l) (s : ByteArray) (hs : s.size ≤ 140737488355328) (k : Int) (hv : validB l = true) (ht : isTree s = true) (hk : k < 0 ∨ 10000000 < k) : AftCt w v s k 0 [] 0 0 2 :=
  aft_ct rfl fun w' hb => after_bad v l s k w' 2 ((hl.below hb).mono hb.size) (.inr rfl) (fun w2 h2 => begin_arg v l s k w2 h2 hs hv ht hk)
theorem aft_ok_ct {w : World} {v : Value} {l : List Ins} (hl : InsRow w w.heap.size v l) (hv : validB l = true) (t : Tr) (ht : t.size ≤ 2000000) (K : Nat) (hK : K ≤ 10000000) (n : Int) (L : List ByteArray) (LL : Nat) (hL : L.length = LL) (m : Nat) (er : Int) (hr : (goF l K 0 (startS t)).after = (n, L, m, er)) : AftCt w v (TS t) K n L LL m er :=
  aft_ct hL fun w' hb => after_ok v l t ht K hK w' ((hl.below hb).mono hb.size) hv n L m er hr
theorem raft_ct {w w' : World} {gm : Nat} {l : List Ins} {pv tv : Value} {t : Tr} {q : Option Addr} {K : Nat} (hK : K ≤ 100000000) (hm : RMachP w' w'.heap.size gm l pv tv) (hx : NodeP 114 w' t (.pointer q)) (ht : t.size ≤ 2000000) (hv : validB l = true) (R : Res) (hr : goF l K 0 (startS t) = R) (_ : Below w.heap.size w w') :
    Calls Try.prog 40 #[.pointer (some ⟨gm, 0, none⟩), .pointer q, .int .i64 K] w' (RAft w' R) := by
  rw [← hr]; exact rafter_any w' gm l pv tv t _ K hK hm hx ht (validB_all hv) (validB_len hv)

theorem sameB_self (l : List ByteArray) : sameB l l = true := by unfold sameB; exact decide_eq_true rfl

set_option maxRecDepth 100000 in
set_option maxHeartbeats 4000000 in
theorem law_RunAfters {w : World} (v : Value) (l : List Ins) (hl : InsRow w w.heap.size v l) (s : ByteArray) (hs : s.size ≤ 140737488355328) (fuel : Int) (hf : -9223372036854775808 ≤ fuel ∧ fuel ≤ 9223372036854775807) :
    Calls Try.prog 8 #[v, .string s, .int .i64 fuel] w fun e w' => e = .returned (.bool true) ∧ Below w.heap.size w w' := by
  have kt := twin_any v l w hl
  go_enter Try.func8, Try.ntmps8
  go_wp2_with fail
  refine kt.mono ?_
  rintro e wB ⟨v', rfl, hv', hb1⟩
  have HQ := Lib.hid hb1
  have hl1 := (hl.below hb1).mono hb1.size
  clear kt hl hb1
  by_cases hgood : validB l = true ∧ isTree s = true
  · obtain ⟨hv, htr⟩ := hgood
    by_cases hf1 : fuel < 0 ∨ 10000000 < fuel
    · have cA := aft_arg_ct hl1 s hs fuel hv htr hf1
      go_wp2_with fail
      refine (cA _ (Below.refl _ _)).mono ?_
      rintro e wA ⟨ua, uc, rfl, hu, hb2⟩
      obtain ⟨W, hW⟩ : ∃ W, wA.alloc (.cells #[.int .i64 0, (.slice ua 0 uc)] 53) = W := ⟨_, rfl⟩
      have hq : Below wA.heap.size wA W := by rw [← hW]; exact (Below.refl _ _).alloc (Nat.le_refl _) _
      have d0 : W.cell? ⟨wA.heap.size, 0, none⟩ = some (.int .i64 0) := by rw [← hW]; exact (block_cells (heap_alloc_new wA _)).1 0
      have d1 : W.cell? ⟨wA.heap.size, 1, none⟩ = some (.slice ua 0 uc) := by rw [← hW]; exact (block_cells (heap_alloc_new wA _)).1 1
      have hlt : wA.heap.size < W.heap.size := by rw [← hW]; simp
      have hrow := (hu.out.below hq).mono hq.size
      have hbW := hb2.trans (hq.mono hb2.size)
      have QBW := Lib.hid hbW
      have D0 := Lib.hid d0
      have D1 := Lib.hid d1
      have hlW := (hl1.below hbW).mono hbW.size
      have cSame := same_ct hlW ((hv'.below hbW).mono hbW.size) true (sameP_self l)
      have cAw := awake03_ct W
      have cN := none_ct (n := 0) (L := []) true (by rfl) hrow
      have cV := cvalid_ct hlW _ hv
      have cT := tvalid_ct (w := W) s hs _ htr
      clear hq hb2 hu d0 d1 hbW hlW hl1 hv'
      clear hv htr
      rcases hf1 with hf1 | hf1
      all_goals
        go_wp2_with fail
        refine (cSame _ (Below.refl _ _)).mono ?_
        rintro e w1 ⟨rfl, hb1⟩
        go_wp2_with fail
        refine (cV _ hb1).mono ?_
        rintro e w2 ⟨rfl, hb2⟩
        clear hb1
        go_wp2_with fail
        refine (cT _ hb2).mono ?_
        rintro e w3 ⟨rfl, hb3⟩
        clear hb2
        have e0 := (hb3.cell (p := ⟨wA.heap.size, 0, none⟩) hlt).trans D0.out
        have e1 := (hb3.cell (p := ⟨wA.heap.size, 1, none⟩) hlt).trans D1.out
        go_wp2_with fail
        refine (cN _ hb3).mono ?_
        rintro e w4 ⟨rfl, hb4⟩
        clear hb3
        go_wp2_with fail
        refine (cAw _ hb4).mono ?_
        rintro e w5 ⟨rfl, hb5⟩
        clear hb4
        go_wp2
        go_ret
        exact ⟨rfl, HQ.out.trans ((QBW.out.trans (hb5.mono QBW.out.size)).mono HQ.out.size)⟩
    · obtain ⟨t, rfl, ht⟩ := isTree_get htr
      obtain ⟨K, rfl⟩ := Int.eq_ofNat_of_zero_le (by omega : 0 ≤ fuel)
      have hK : K ≤ 10000000 := by omega
      have hKI : (K : Int) ≤ 10000000 := by omega
      have hgd := goF_good (validB_all hv) (f := K) (n := 0) (Good.start l.length t ht)
      cases hR : goF l K 0 (startS t) with
      | big =>
        have cA := aft_ok_ct hl1 hv t ht K hK 0 [] 0 rfl 0 3 (by rw [hR]; rfl)
        go_wp2_with fail
        refine (cA _ (Below.refl _ _)).mono ?_
        rintro e wA ⟨ua, uc, rfl, hu, hb2⟩
        obtain ⟨W, hW⟩ : ∃ W, wA.alloc (.cells #[.int .i64 0, (.slice ua 0 uc)] 53) = W := ⟨_, rfl⟩
        have hq : Below wA.heap.size wA W := by rw [← hW]; exact (Below.refl _ _).alloc (Nat.le_refl _) _
        have d0 : W.cell? ⟨wA.heap.size, 0, none⟩ = some (.int .i64 0) := by rw [← hW]; exact (block_cells (heap_alloc_new wA _)).1 0
        have d1 : W.cell? ⟨wA.heap.size, 1, none⟩ = some (.slice ua 0 uc) := by rw [← hW]; exact (block_cells (heap_alloc_new wA _)).1 1
        have hlt : wA.heap.size < W.heap.size := by rw [← hW]; simp
        have hrow := (hu.out.below hq).mono hq.size
        have hbW := hb2.trans (hq.mono hb2.size)
        have QBW := Lib.hid hbW
        have D0 := Lib.hid d0
        have D1 := Lib.hid d1
        have hlW := (hl1.below hbW).mono hbW.size
        have cSame := same_ct hlW ((hv'.below hbW).mono hbW.size) true (sameP_self l)
        have cAw := awake03_ct W
        have cN := none_ct (n := 0) (L := []) true (by rfl) hrow
        have cV := cvalid_ct hlW _ hv
        have cT := tvalid_ct (w := W) (TS t) hs _ htr
        have cLoad := load_ct hlW hv
        have cRead := read_ct (w := W) t ht
        clear hq hb2 hu d0 d1 hbW hlW hl1 hv'
        have HR := Lib.hid hR
        have HV := Lib.hid hv
        clear htr hf1 hgd hR hv
        generalize TS t = S at *
        go_wp2_with fail
        refine (cSame _ (Below.refl _ _)).mono ?_
        rintro e w1 ⟨rfl, hb1⟩
        go_wp2_with fail
        refine (cV _ hb1).mono ?_
        rintro e w2 ⟨rfl, hb2⟩
        clear hb1
        go_wp2_with fail
        refine (cT _ hb2).mono ?_
        rintro e w3 ⟨rfl, hb3⟩
        clear hb2
        go_wp2_with fail
        refine (cLoad _ hb3).mono ?_
        rintro e w4 ⟨gm, tv, rfl, hm, hb4⟩
        clear hb3
        go_wp2_with fail
        refine (cRead _ hb4).mono ?_
        rintro e w5 ⟨q, rfl, hq, hb5⟩
        clear hb4
        have hm2 := hm.out.below hq.out.2
        have kr := fun hb => raft_ct (w := W) (by omega) hm2 hq.out.1 ht HV.out _ HR.out hb
        clear hm2
        go_wp2_with fail
        refine (kr hb5).mono ?_
        rintro e w6 ⟨pz, nz, rfl, hq6⟩
        have hb6 := hb5.trans (hq6.mono hb5.size)
        clear hq6
        have e0 := (hb6.cell (p := ⟨wA.heap.size, 0, none⟩) hlt).trans D0.out
        have e1 := (hb6.cell (p := ⟨wA.heap.size, 1, none⟩) hlt).trans D1.out
        go_wp2_with fail
        refine (cN _ hb6).mono ?_
        rintro e w7 ⟨rfl, hb7⟩
        clear hb6
        go_wp2_with fail
        refine (cAw _ hb7).mono ?_
        rintro e w8 ⟨rfl, hb8⟩
        clear hb7
        go_wp2
        go_ret
        exact ⟨rfl, HQ.out.trans ((QBW.out.trans (hb8.mono QBW.out.size)).mono HQ.out.size)⟩
      | fuel s' n =>
        have hgs := hgd.2 s' n hR
        have cA := aft_ok_ct hl1 hv t ht K hK s'.pos (s'.regs.map TS) 32 (by simp [hgs.2.1]) n 0 (by rw [hR]; rfl)
        go_wp2_with fail
        refine (cA _ (Below.refl _ _)).mono ?_
        rintro e wA ⟨ua, uc, rfl, hu, hb2⟩
        obtain ⟨W, hW⟩ : ∃ W, wA.alloc (.cells #[.int .i64 s'.pos, (.slice ua 32 uc)] 53) = W := ⟨_, rfl⟩
        have hq : Below wA.heap.size wA W := by rw [← hW]; exact (Below.refl _ _).alloc (Nat.le_refl _) _
        have d0 : W.cell? ⟨wA.heap.size, 0, none⟩ = some (.int .i64 s'.pos) := by rw [← hW]; exact (block_cells (heap_alloc_new wA _)).1 0
        have d1 : W.cell? ⟨wA.heap.size, 1, none⟩ = some (.slice ua 32 uc) := by rw [← hW]; exact (block_cells (heap_alloc_new wA _)).1 1
        have hlt : wA.heap.size < W.heap.size := by rw [← hW]; simp
        have hrow := (hu.out.below hq).mono hq.size
        have hbW := hb2.trans (hq.mono hb2.size)
        have QBW := Lib.hid hbW
        have D0 := Lib.hid d0
        have D1 := Lib.hid d1
        have hlW := (hl1.below hbW).mono hbW.size
        have cSame := same_ct hlW ((hv'.below hbW).mono hbW.size) true (sameP_self l)
        have cAw := awake03_ct W
        have cV := cvalid_ct hlW _ hv
        have cT := tvalid_ct (w := W) (TS t) hs _ htr
        have cLoad := load_ct hlW hv
        have cRead := read_ct (w := W) t ht
        clear hq hb2 hu d0 d1 hbW hlW hl1 hv'
        clear htr hf1 hgd
        generalize TS t = S at *
        go_wp2_with fail
        refine (cSame _ (Below.refl _ _)).mono ?_
        rintro e w1 ⟨rfl, hb1⟩
        go_wp2_with fail
        refine (cV _ hb1).mono ?_
        rintro e w2 ⟨rfl, hb2⟩
        clear hb1
        go_wp2_with fail
        refine (cT _ hb2).mono ?_
        rintro e w3 ⟨rfl, hb3⟩
        clear hb2
        go_wp2_with fail
        refine (cLoad _ hb3).mono ?_
        rintro e w4 ⟨gm, tv, rfl, hm, hb4⟩
        clear hb3
        go_wp2_with fail
        refine (cRead _ hb4).mono ?_
        rintro e w5 ⟨q, rfl, hq, hb5⟩
        clear hb4
        have hm2 := hm.out.below hq.out.2
        have kr := fun hb => raft_ct (w := W) (by omega) hm2 hq.out.1 ht hv _ hR hb
        clear hm2
        go_wp2_with fail
        refine (kr hb5).mono ?_
        rintro e w6 ⟨gs, gr, cp, ps, rfl, hs, hgr, hb6'⟩
        have hb6 := hb5.trans (hb6'.mono hb5.size)
        have e0 := (hb6.cell (p := ⟨wA.heap.size, 0, none⟩) hlt).trans D0.out
        have e1 := (hb6.cell (p := ⟨wA.heap.size, 1, none⟩) hlt).trans D1.out
        have hlt6 : wA.heap.size < w6.heap.size := by have := hb6.size; omega
        have keep : ∀ w', Below w6.heap.size w6 w' → w'.cell? ⟨wA.heap.size, 0, none⟩ = some (.int .i64 s'.pos) ∧ w'.cell? ⟨wA.heap.size, 1, none⟩ = some (.slice ua 32 uc) := fun w' hb => ⟨(hb.cell (p := ⟨wA.heap.size, 0, none⟩) hlt6).trans e0, (hb.cell (p := ⟨wA.heap.size, 1, none⟩) hlt6).trans e1⟩
        have kT : ∀ w', Below w6.heap.size w6 w' → Calls Try.prog 42 #[.pointer (some ⟨gs, 0, none⟩)] w' fun e w'' => ∃ x, e = .returned (.agg #[.int .i64 s'.pos, x]) ∧ Hid (StrRow w'' w''.heap.size x (s'.regs.map TS)) ∧ Below w6.heap.size w6 w'' := fun w' hb => by
          refine (rtext_any w' _ gs gr cp l.length s' ps (by rw [hgs.2.1]; exact hs.kept hb) hgs).mono ?_
          rintro e w'' ⟨x, h1, h2, h3⟩
          exact ⟨x, h1, h2, hb.trans (h3.mono hb.size)⟩
        have kS : ∀ w' x, StrRow w' w'.heap.size x (s'.regs.map TS) → Below w6.heap.size w6 w' → Calls Try.prog 41 #[.agg #[.int .i64 s'.pos, .slice ua 32 uc], .agg #[.int .i64 s'.pos, x]] w' fun e w'' => e = .returned (.bool true) ∧ Below w6.heap.size w6 w'' := fun w' x hx hb => by
          have hb' := hb6.trans (hb.mono hb6.size)
          refine (sameState_any _ _ _ x _ _ w' ((hrow.below hb').mono hb'.size) hx).mono ?_
          rintro e w'' ⟨rfl, h2⟩
          exact ⟨by simp [sameS, sameB_self], hb.trans (h2.mono hb.size)⟩
        have kA : ∀ w', Below w6.heap.size w6 w' → Calls Try.prog 25 #[] w' fun e w'' => e = .returned (.bool true) ∧ Below w6.heap.size w6 w'' := awake03_ct w6
        have HB6 := Lib.hid hb6
        have HKEEP := Lib.hid keep
        have HKT := Lib.hid kT
        have HKS := Lib.hid kS
        have HKA := Lib.hid kA
        clear kr hb5 hb6 hb6' keep kT kS kA hs hgr hrow
        go_wp2
        go_region_held3 (fun w' => w'.cell? ⟨wA.heap.size, 0, none⟩ = some (.int .i64 s'.pos) ∧ w'.cell? ⟨wA.heap.size, 1, none⟩ = some (.slice ua 32 uc))
          (with_reducible (first | exact HKEEP.out _ hbA | exact HKEEP.out _ hbS | exact HKEEP.out _ hbT | exact HKEEP.out _ (Below.refl _ _) | exact HKEEP.out _ (Below.refl _ _).drew))
          ((first
            | ((with_reducible refine (HKT.out _ (by first | exact Below.refl _ _ | exact (Below.refl _ _).drew)).mono ?_); rintro e wT ⟨x, rfl, hx, hbT⟩)
            | ((with_reducible refine (HKS.out _ _ hx.out hbT).mono ?_); rintro e wS ⟨rfl, hbS⟩)
            | ((with_reducible refine (HKA.out _ hbS).mono ?_); rintro e wZ ⟨rfl, hbA⟩)))
        go_wp2
        go_ret
        have hb7 := HB6.out.trans (hbA.mono HB6.out.size)
        exact ⟨rfl, HQ.out.trans ((QBW.out.trans (hb7.mono QBW.out.size)).mono HQ.out.size)⟩
      | done s' n =>
        have hgs := hgd.1 s' n hR
        have cA := aft_ok_ct hl1 hv t ht K hK s'.pos (s'.regs.map TS) 32 (by simp [hgs.2.1]) n 0 (by rw [hR]; rfl)
        go_wp2_with fail
        refine (cA _ (Below.refl _ _)).mono ?_
        rintro e wA ⟨ua, uc, rfl, hu, hb2⟩
        obtain ⟨W, hW⟩ : ∃ W, wA.alloc (.cells #[.int .i64 s'.pos, (.slice ua 32 uc)] 53) = W := ⟨_, rfl⟩
        have hq : Below wA.heap.size wA W := by rw [← hW]; exact (Below.refl _ _).alloc (Nat.le_refl _) _
        have d0 : W.cell? ⟨wA.heap.size, 0, none⟩ = some (.int .i64 s'.pos) := by rw [← hW]; exact (block_cells (heap_alloc_new wA _)).1 0
        have d1 : W.cell? ⟨wA.heap.size, 1, none⟩ = some (.slice ua 32 uc) := by rw [← hW]; exact (block_cells (heap_alloc_new wA _)).1 1
        have hlt : wA.heap.size < W.heap.size := by rw [← hW]; simp
        have hrow := (hu.out.below hq).mono hq.size
        have hbW := hb2.trans (hq.mono hb2.size)
        have QBW := Lib.hid hbW
        have D0 := Lib.hid d0
        have D1 := Lib.hid d1
        have hlW := (hl1.below hbW).mono hbW.size
        have cSame := same_ct hlW ((hv'.below hbW).mono hbW.size) true (sameP_self l)
        have cAw := awake03_ct W
        have cV := cvalid_ct hlW _ hv
        have cT := tvalid_ct (w := W) (TS t) hs _ htr
        have cLoad := load_ct hlW hv
        have cRead := read_ct (w := W) t ht
        clear hq hb2 hu d0 d1 hbW hlW hl1 hv'
        clear htr hf1 hgd
        generalize TS t = S at *
        go_wp2_with fail
        refine (cSame _ (Below.refl _ _)).mono ?_
        rintro e w1 ⟨rfl, hb1⟩
        go_wp2_with fail
        refine (cV _ hb1).mono ?_
        rintro e w2 ⟨rfl, hb2⟩
        clear hb1
        go_wp2_with fail
        refine (cT _ hb2).mono ?_
        rintro e w3 ⟨rfl, hb3⟩
        clear hb2
        go_wp2_with fail
        refine (cLoad _ hb3).mono ?_
        rintro e w4 ⟨gm, tv, rfl, hm, hb4⟩
        clear hb3
        go_wp2_with fail
        refine (cRead _ hb4).mono ?_
        rintro e w5 ⟨q, rfl, hq, hb5⟩
        clear hb4
        have hm2 := hm.out.below hq.out.2
        have kr := fun hb => raft_ct (w := W) (by omega) hm2 hq.out.1 ht hv _ hR hb
        clear hm2
        go_wp2_with fail
        refine (kr hb5).mono ?_
        rintro e w6 ⟨gs, gr, cp, ps, rfl, hs, hgr, hb6'⟩
        have hb6 := hb5.trans (hb6'.mono hb5.size)
        have e0 := (hb6.cell (p := ⟨wA.heap.size, 0, none⟩) hlt).trans D0.out
        have e1 := (hb6.cell (p := ⟨wA.heap.size, 1, none⟩) hlt).trans D1.out
        have hlt6 : wA.heap.size < w6.heap.size := by have := hb6.size; omega
        have keep : ∀ w', Below w6.heap.size w6 w' → w'.cell? ⟨wA.heap.size, 0, none⟩ = some (.int .i64 s'.pos) ∧ w'.cell? ⟨wA.heap.size, 1, none⟩ = some (.slice ua 32 uc) := fun w' hb => ⟨(hb.cell (p := ⟨wA.heap.size, 0, none⟩) hlt6).trans e0, (hb.cell (p := ⟨wA.heap.size, 1, none⟩) hlt6).trans e1⟩
        have kT : ∀ w', Below w6.heap.size w6 w' → Calls Try.prog 42 #[.pointer (some ⟨gs, 0, none⟩)] w' fun e w'' => ∃ x, e = .returned (.agg #[.int .i64 s'.pos, x]) ∧ Hid (StrRow w'' w''.heap.size x (s'.regs.map TS)) ∧ Below w6.heap.size w6 w'' := fun w' hb => by
          refine (rtext_any w' _ gs gr cp l.length s' ps (by rw [hgs.2.1]; exact hs.kept hb) hgs).mono ?_
          rintro e w'' ⟨x, h1, h2, h3⟩
          exact ⟨x, h1, h2, hb.trans (h3.mono hb.size)⟩
        have kS : ∀ w' x, StrRow w' w'.heap.size x (s'.regs.map TS) → Below w6.heap.size w6 w' → Calls Try.prog 41 #[.agg #[.int .i64 s'.pos, .slice ua 32 uc], .agg #[.int .i64 s'.pos, x]] w' fun e w'' => e = .returned (.bool true) ∧ Below w6.heap.size w6 w'' := fun w' x hx hb => by
          have hb' := hb6.trans (hb.mono hb6.size)
          refine (sameState_any _ _ _ x _ _ w' ((hrow.below hb').mono hb'.size) hx).mono ?_
          rintro e w'' ⟨rfl, h2⟩
          exact ⟨by simp [sameS, sameB_self], hb.trans (h2.mono hb.size)⟩
        have kA : ∀ w', Below w6.heap.size w6 w' → Calls Try.prog 25 #[] w' fun e w'' => e = .returned (.bool true) ∧ Below w6.heap.size w6 w'' := awake03_ct w6
        have HB6 := Lib.hid hb6
        have HKEEP := Lib.hid keep
        have HKT := Lib.hid kT
        have HKS := Lib.hid kS
        have HKA := Lib.hid kA
        clear kr hb5 hb6 hb6' keep kT kS kA hs hgr hrow
        go_wp2
        go_region_held3 (fun w' => w'.cell? ⟨wA.heap.size, 0, none⟩ = some (.int .i64 s'.pos) ∧ w'.cell? ⟨wA.heap.size, 1, none⟩ = some (.slice ua 32 uc))
          (with_reducible (first | exact HKEEP.out _ hbA | exact HKEEP.out _ hbS | exact HKEEP.out _ hbT | exact HKEEP.out _ (Below.refl _ _) | exact HKEEP.out _ (Below.refl _ _).drew))
          ((first
            | ((with_reducible refine (HKT.out _ (by first | exact Below.refl _ _ | exact (Below.refl _ _).drew)).mono ?_); rintro e wT ⟨x, rfl, hx, hbT⟩)
            | ((with_reducible refine (HKS.out _ _ hx.out hbT).mono ?_); rintro e wS ⟨rfl, hbS⟩)
            | ((with_reducible refine (HKA.out _ hbS).mono ?_); rintro e wZ ⟨rfl, hbA⟩)))
        go_wp2
        go_ret
        have hb7 := HB6.out.trans (hbA.mono HB6.out.size)
        exact ⟨rfl, HQ.out.trans ((QBW.out.trans (hb7.mono QBW.out.size)).mono HQ.out.size)⟩
  · have cA := aft_form_ct hl1 s hs fuel (by cases h1 : validB l <;> cases h2 : isTree s <;> simp_all)
    obtain ⟨bv, hbv⟩ : ∃ b, validB l = b := ⟨_, rfl⟩
    cases bv with
    | false =>
      go_wp2_with fail
      refine (cA _ (Below.refl _ _)).mono ?_
      rintro e wA ⟨ua, uc, rfl, hu, hb2⟩
      obtain ⟨W, hW⟩ : ∃ W, wA.alloc (.cells #[.int .i64 0, (.slice ua 0 uc)] 53) = W := ⟨_, rfl⟩
      have hq : Below wA.heap.size wA W := by rw [← hW]; exact (Below.refl _ _).alloc (Nat.le_refl _) _
      have d0 : W.cell? ⟨wA.heap.size, 0, none⟩ = some (.int .i64 0) := by rw [← hW]; exact (block_cells (heap_alloc_new wA _)).1 0
      have d1 : W.cell? ⟨wA.heap.size, 1, none⟩ = some (.slice ua 0 uc) := by rw [← hW]; exact (block_cells (heap_alloc_new wA _)).1 1
      have hlt : wA.heap.size < W.heap.size := by rw [← hW]; simp
      have hrow := (hu.out.below hq).mono hq.size
      have hbW := hb2.trans (hq.mono hb2.size)
      have QBW := Lib.hid hbW
      have D0 := Lib.hid d0
      have D1 := Lib.hid d1
      have hlW := (hl1.below hbW).mono hbW.size
      have cSame := same_ct hlW ((hv'.below hbW).mono hbW.size) true (sameP_self l)
      have cAw := awake03_ct W
      have cN := none_ct (n := 0) (L := []) true (by rfl) hrow
      have cV := cvalid_ct hlW _ hbv
      clear hq hb2 hu d0 d1 hbW hlW hl1 hv'
      clear hbv hgood
      go_wp2_with fail
      refine (cSame _ (Below.refl _ _)).mono ?_
      rintro e w1 ⟨rfl, hb1⟩
      go_wp2_with fail
      refine (cV _ hb1).mono ?_
      rintro e w2 ⟨rfl, hb2⟩
      clear hb1
      have e0 := (hb2.cell (p := ⟨wA.heap.size, 0, none⟩) hlt).trans D0.out
      have e1 := (hb2.cell (p := ⟨wA.heap.size, 1, none⟩) hlt).trans D1.out
      go_wp2_with fail
      refine (cN _ hb2).mono ?_
      rintro e w3 ⟨rfl, hb3⟩
      clear hb2
      go_wp2_with fail
      refine (cAw _ hb3).mono ?_
      rintro e w4 ⟨rfl, hb4⟩
      clear hb3
      go_wp2
      go_ret
      exact ⟨rfl, HQ.out.trans ((QBW.out.trans (hb4.mono QBW.out.size)).mono HQ.out.size)⟩
    | true =>
      have htr : isTree s = false := by cases h2 : isTree s <;> simp_all
      go_wp2_with fail
      refine (cA _ (Below.refl _ _)).mono ?_
      rintro e wA ⟨ua, uc, rfl, hu, hb2⟩
      obtain ⟨W, hW⟩ : ∃ W, wA.alloc (.cells #[.int .i64 0, (.slice ua 0 uc)] 53) = W := ⟨_, rfl⟩
      have hq : Below wA.heap.size wA W := by rw [← hW]; exact (Below.refl _ _).alloc (Nat.le_refl _) _
      have d0 : W.cell? ⟨wA.heap.size, 0, none⟩ = some (.int .i64 0) := by rw [← hW]; exact (block_cells (heap_alloc_new wA _)).1 0
      have d1 : W.cell? ⟨wA.heap.size, 1, none⟩ = some (.slice ua 0 uc) := by rw [← hW]; exact (block_cells (heap_alloc_new wA _)).1 1
      have hlt : wA.heap.size < W.heap.size := by rw [← hW]; simp
      have hrow := (hu.out.below hq).mono hq.size
      have hbW := hb2.trans (hq.mono hb2.size)
      have QBW := Lib.hid hbW
      have D0 := Lib.hid d0
      have D1 := Lib.hid d1
      have hlW := (hl1.below hbW).mono hbW.size
      have cSame := same_ct hlW ((hv'.below hbW).mono hbW.size) true (sameP_self l)
      have cAw := awake03_ct W
      have cN := none_ct (n := 0) (L := []) true (by rfl) hrow
      have cV := cvalid_ct hlW _ hbv
      have cT := tvalid_ct (w := W) s hs _ htr
      clear hq hb2 hu d0 d1 hbW hlW hl1 hv'
      clear hbv hgood htr
      go_wp2_with fail
      refine (cSame _ (Below.refl _ _)).mono ?_
      rintro e w1 ⟨rfl, hb1⟩
      go_wp2_with fail
      refine (cV _ hb1).mono ?_
      rintro e w2 ⟨rfl, hb2⟩
      clear hb1
      go_wp2_with fail
      refine (cT _ hb2).mono ?_
      rintro e w3 ⟨rfl, hb3⟩
      clear hb2
      have e0 := (hb3.cell (p := ⟨wA.heap.size, 0, none⟩) hlt).trans D0.out
      have e1 := (hb3.cell (p := ⟨wA.heap.size, 1, none⟩) hlt).trans D1.out
      go_wp2_with fail
      refine (cN _ hb3).mono ?_
      rintro e w4 ⟨rfl, hb4⟩
      clear hb3
      go_wp2_with fail
      refine (cAw _ hb4).mono ?_
      rintro e w5 ⟨rfl, hb5⟩
      clear hb4
      go_wp2
      go_ret
      exact ⟨rfl, HQ.out.trans ((QBW.out.trans (hb5.mono QBW.out.size)).mono HQ.out.size)⟩

end Go.Proofs.Ytieocihlkpipmaa

namespace Go.Proofs.Ytieocihlkpipmaa
open Go.RowKit

theorem blk_lift {A B : World} {b : Nat} {o : Obj} (hb : Below A.heap.size A B) (h : A.heap[b]? = some o) : B.heap[b]? = some o := below_blk hb h (Array.getElem?_eq_some_iff.1 h).1
theorem same_at {w : World} {v v' : Value} {l l' : List Ins} (b : Bool) (h1 : InsRow w w.heap.size v l) (h2 : InsRow w w.heap.size v' l') (hb : sameP l l' = b) : Calls Try.prog 22 #[v, v'] w fun e w' => e = .returned (.bool b) ∧ Below w.heap.size w w' := same_ct h1 h2 b hb w (Below.refl _ _)
theorem same_self {w : World} {v v' : Value} {l : List Ins} (h1 : InsRow w w.heap.size v l) (h2 : InsRow w w.heap.size v' l) : Calls Try.prog 22 #[v, v'] w fun e w' => e = .returned (.bool true) ∧ Below w.heap.size w w' := same_at true h1 h2 (sameP_self l)
theorem cvalid_at {w : World} {v : Value} {l : List Ins} (b : Bool) (hb : validB l = b) (h1 : InsRow w w.heap.size v l) : Calls Try.prog 23 #[v] w fun e w' => e = .returned (.bool b) ∧ Below w.heap.size w w' := cvalid_ct h1 b hb w (Below.refl _ _)
theorem tvalid_at (s : ByteArray) (hs : s.size ≤ 140737488355328) (b : Bool) (hb : isTree s = b) (w : World) : Calls Try.prog 24 #[.string s] w fun e w' => e = .returned (.bool b) ∧ Below w.heap.size w w' := tvalid_ct s hs b hb w (Below.refl _ _)
/-- Run, where it may run. -/
theorem runOk_at {w : World} {v : Value} {l : List Ins} {t : Tr} {S : ByteArray} (K : Nat) (Ki : Int) (y : ByteArray) (k : Nat) (er : Int) (hr : (goF l K 0 (startS t)).run = (y, k, er)) (hv : validB l = true) (ht : t.size ≤ 2000000) (hS : TS t = S) (hKi : Ki = K) (hK : K ≤ 10000000) (hl : InsRow w w.heap.size v l) :
    Calls Try.prog 21 #[v, .string S, .int .i64 Ki] w fun e w' => e = .returned (.tuple #[.string y, .int .i64 k, .int .i64 er]) ∧ Below w.heap.size w w' := run_at hv ht hS K Ki hKi hK y k er hr w v hl (Below.refl _ _)

end Go.Proofs.Ytieocihlkpipmaa

namespace Go.Proofs.Ytieocihlkpipmaa
open Go.RowKit

theorem step_src {P : Program} {tS tE : Nat} {z : Value} {sz by_ : Nat} (E : ElemT P tS tE z sz by_) {ops : Array Oper} {o : Oper} {a : Act} {K : Act → World → Prop} {Q : Exit → Act → World → Prop} {EE : Prop}
    (hgd : o.guard = none) (s x : Operand) (ho : o.op = .call { callee := .builtin .append, args := #[s, x], argTypes := #[tS, tS] }) {w : World} {base : Nat} {v vx : Value} {n m : Nat} {xs news : List Value}
    (hs : a.eval s = v) (hown : w.ownsRow base tE sz v n xs) (hx : a.eval x = vx) (hsrc : Src w vx m sz news)
    (h1 : ∀ u ∈ news, u.oneCell' = true) (hby : (n + m) * by_ ≤ 140737488355328) (h63 : n + m ≤ maxLen) (hbase : base ≤ w.heap.size) {B : Nat} {w0 : World} (hb : Below B w0 w) (hB : B ≤ base)
    (h : ∀ a' c' w', w'.ownsRow base tE sz (.slice a' (n + m) c') (n + m) (xs ++ news) → Below B w0 w' → w.grownBy w' v.ownBlock → K (a.put o.dst (.slice a' (n + m) c')) w') :
    if Region.wanted o (yielded ops a.tmps) = true then Oper.wp P o a w K Q else EE := by
  obtain ⟨i, hi, hz, hsize, hbytes⟩ := info_parts E.hi
  have hlt := hown.lt
  have hw : Region.wanted o (yielded ops a.tmps) = true := by simp [Region.wanted, hgd]
  rw [if_pos hw]
  have fin : ∀ v' w', w'.ownsRow base tE sz v' (n + m) (xs ++ news) → Below B w0 w' → w.grownBy w' v.ownBlock → K (a.put o.dst v') w' := by
    intro v' w' h2 h3 h4
    have hl : ∃ a' c', v' = .slice a' (n + m) c' := by
      rcases h2.2 with ⟨e1, e2⟩ | ⟨g, cap, cur, e, _⟩
      · refine ⟨none, 0, ?_⟩
        rw [e1, e2]
      · exact ⟨_, _, e⟩
    obtain ⟨a', c', rfl⟩ := hl
    exact h a' c' w' h2 h3 h4
  obtain ⟨hl, hc⟩ := hsrc
  rcases hc with ⟨rfl, rfl⟩ | ⟨ad, c, rfl, hcells⟩
  · have hnews : news = [] := List.eq_nil_of_length_eq_zero (by simpa using hl)
    subst hnews
    have hrun := run_append_owned_none (P := P) w base tS o.type tE i sz E.ht hi v n xs hown
    unfold Oper.wp execOp
    simp only [ho, resolve, invoke, builtin, Sem.run_bind, Sem.run_pure, Result.andThen_ok, List.map_toArray, List.map_cons, List.map_nil, hs, hx, hrun]
    exact fin v w (by simpa using hown) hb ⟨rfl, rfl, rfl, Nat.le_refl _, fun _ _ _ => rfl⟩
  · obtain ⟨v', w', hr, h2, h3, _⟩ := run_append_own (P := P) w base tS o.type tE i z sz by_ E.ht hi hz hsize hbytes E.hzs E.hsz v n xs hown ad m c news hl hcells h1 h63 hby hbase
    unfold Oper.wp execOp
    simp only [ho, resolve, invoke, builtin, Sem.run_bind, Sem.run_pure, Result.andThen_ok, List.map_toArray, List.map_cons, List.map_nil, hs, hx, hr]
    exact fin v' w' h2 (hb.grown h3 (by omega) (fun k hk => by have := (hlt k hk).1; omega)) h3

theorem own_empty (w : World) (e sz : Nat) : (w.alloc (.cells #[] e)).ownsRow w.heap.size e sz (.slice (some ⟨w.heap.size, 0, none⟩) 0 0) 0 [] := World.ownsRow_lit w #[] 0 (Nat.le_refl _) (by decide) (by simp)

set_option maxRecDepth 20000 in
set_option maxHeartbeats 4000000 in
theorem copied_any (n : Int) (u : Value) (L : List ByteArray) (hz : L.length ≤ 8796093022208) (w : World) (hu : StrRow w w.heap.size u L) :
    Calls Try.prog 48 #[.agg #[.int .i64 n, u]] w fun e w' => ∃ a c, e = .returned (.agg #[.int .i64 n, .slice a L.length c]) ∧ StrRow w' w'.heap.size (.slice a L.length c) L ∧ Below w.heap.size w w' := by
  obtain ⟨au, cu, rfl⟩ := hu.len
  have HU := Lib.hid hu
  have hsz := hu.1
  have HSZ := Lib.hid hsz
  obtain ⟨m, hm⟩ : ∃ m, L.length = m := ⟨_, rfl⟩
  rw [hm] at hu hz HU ⊢
  have HM := Lib.hid hm
  clear hm hu hsz
  obtain ⟨W, hW⟩ : ∃ W, (w.alloc (.cells #[.int .i64 n, .slice au m cu] 53)).alloc (.cells #[.int .i64 0, .slice none 0 0] 53) = W := ⟨_, rfl⟩
  have hbW : Below w.heap.size w W := by rw [← hW]; exact ((Below.refl _ w).alloc (Nat.le_refl _) _).alloc (by simp) _
  have b0 : W.heap[w.heap.size]? = some (.cells #[.int .i64 n, .slice au m cu] 53 (0, 0)) := by rw [← hW]; exact (Below.heap_alloc _ _ _ (by simp)).trans (heap_alloc_new w _)
  have b1 : W.heap[w.heap.size + 1]? = some (.cells #[.int .i64 0, .slice none 0 0] 53 (0, 0)) := by
    have := heap_alloc_new (w.alloc (.cells #[.int .i64 n, .slice au m cu] 53)) (.cells #[.int .i64 0, .slice none 0 0] 53)
    rw [World.size_alloc] at this
    rw [← hW]; exact this
  have c0 := (block_cells b0).1 0
  have c1 := (block_cells b0).1 1
  have d0 := (block_cells b1).1 0
  have d1 := (block_cells b1).1 1
  have f0 := (block_cells b1).2 0
  have f1 := (block_cells b1).2 1
  simp only [List.getElem?_toArray, List.getElem?_cons_zero, List.getElem?_cons_succ] at c0 c1 d0 d1
  have hs0 : w.heap.size + 1 < W.heap.size := (Array.getElem?_eq_some_iff.1 b1).1
  have keep : ∀ w', Below W.heap.size W w' → w'.cell? ⟨w.heap.size, 0, none⟩ = some (.int .i64 n) ∧ w'.cell? ⟨w.heap.size, 1, none⟩ = some (.slice au m cu) ∧ w'.cell? ⟨w.heap.size + 1, 0, none⟩ = some (.int .i64 0) ∧ w'.cell? ⟨w.heap.size + 1, 1, none⟩ = some (.slice none 0 0) ∧ w'.frozen? ⟨w.heap.size + 1, 0, none⟩ = false ∧ w'.frozen? ⟨w.heap.size + 1, 1, none⟩ = false := fun w' hb =>
    ⟨(hb.cell (p := ⟨w.heap.size, 0, none⟩) (by show w.heap.size < _; omega)).trans c0, (hb.cell (p := ⟨w.heap.size, 1, none⟩) (by show w.heap.size < _; omega)).trans c1, (hb.cell (p := ⟨w.heap.size + 1, 0, none⟩) hs0).trans d0, (hb.cell (p := ⟨w.heap.size + 1, 1, none⟩) hs0).trans d1,
      (hb.frozen (p := ⟨w.heap.size + 1, 0, none⟩) hs0).trans f0, (hb.frozen (p := ⟨w.heap.size + 1, 1, none⟩) hs0).trans f1⟩
  have KEEP := Lib.hid keep
  have HBW := Lib.hid hbW
  have HB1 := Lib.hid b1
  have HS : Hid (∀ w', Below W.heap.size W w' → Src w' (.slice au m cu) m 1 (L.map Value.string)) := fun w' hb => by
    have := (HU.out.below (hbW.trans (hb.mono hbW.size))).src
    rwa [HM.out] at this
  clear keep hbW b0 b1
  go_enter Try.func48, Try.ntmps48
  go_wp2
  have hq := Lib.hid (show Below W.heap.size W (W.alloc (.cells #[] 9)) from (Below.refl _ _).alloc (Nat.le_refl _) _)
  obtain ⟨g0, g1, g2, g3, g4, g5⟩ := KEEP.out _ hq.out
  go_region_law ((refine step_src el_str (by rfl) _ _ (by rfl) (by rfl) (by first | exact own_empty _ _ _ | exact own_below (own_empty W 9 1) (Below.refl _ _).drew) (by rfl) (HS.out _ (by first | exact hq.out | exact hq.out.drew | exact (Below.refl _ _).drew.alloc (Nat.le_refl _) _)) (by intro u hu; obtain ⟨y, _, rfl⟩ := List.mem_map.1 hu; rfl) (by omega) (by unfold maxLen; omega) (by first | exact Nat.le_refl _ | (simp; done) | (simp; omega)) (B := W.heap.size) (w0 := W) (by first | exact hq.out | exact hq.out.drew | exact (Below.refl _ _).drew.alloc (Nat.le_refl _) _) (by first | exact Nat.le_refl _ | (simp; done) | (simp; omega)) ?_; intro a' c' w4 hown4 hb4 hg4; obtain ⟨k0, k1, k2, k3, k4, k5⟩ := KEEP.out _ hb4))
  all_goals
    have hb1 := Lib.hid ((hb4.block (w.heap.size + 1) hs0).trans HB1.out)
    have HROW := Lib.hid hown4
    have HB4 := Lib.hid hb4
    clear k0 k1 k2 k3 k4 k5 g0 g1 g2 g3 g4 g5 c0 c1 d0 d1 f0 f1 hown4 hb4 hg4
    go_wp2
    have e1 := set_blk hb1.out 0 (.int .i64 n)
    have e2 := set_blk e1 1 (.slice a' m c')
    have q0 := (block_cells e2).1 0
    have q1 := (block_cells e2).1 1
    simp only [List.setIfInBounds_toArray, List.set_cons_zero, List.set_cons_succ, List.getElem?_toArray, List.getElem?_cons_zero, List.getElem?_cons_succ] at q0 q1
    first
    | refine bodyPost_ret (v := .agg #[.int .i64 n, .slice a' m c']) (by simp [results, Try.results48, go_sem, q0, q1]) rfl ?_
    refine ⟨_, _, rfl, ?_, ((HBW.out.trans (HB4.out.mono HBW.out.size)).setCell (p := ⟨w.heap.size + 1, 0, none⟩) (by show w.heap.size ≤ w.heap.size + 1; omega) _).setCell (p := ⟨w.heap.size + 1, 1, none⟩) (by show w.heap.size ≤ w.heap.size + 1; omega) _⟩
    refine StrRow.of_own (n := m) (e := 9) (base := W.heap.size) ?_ HSZ.out (by rw [HM.out]; omega)
    have := HROW.out
    rw [List.nil_append, Nat.zero_add] at this
    exact own_kept this (((Kept.refl _ _).setCell hb1.out (by decide) _).setCell e1 (by decide) _)

end Go.Proofs.Ytieocihlkpipmaa


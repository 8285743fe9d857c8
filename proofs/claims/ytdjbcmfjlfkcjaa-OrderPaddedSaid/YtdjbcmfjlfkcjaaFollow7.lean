/- law07's Coded and Follows. -/
import Derived.Test.YtdjbcmfjlfkcjaaKnowR
import Derived.Test.YtdjbcmfjlfkcjaaMB1
import Derived.Test.YtdjbcmfjlfkcjaaEqual
namespace Go.Proofs.Ytdjbcmfjlfkcjaa
open Go.RowKit

theorem mach_lift {w w' : World} {g : Nat} {l : List Ins} {pv tv : Value} (h : RMachP w w.heap.size g l pv tv) (hb : Below w.heap.size w w') : RMachP w' w'.heap.size g l pv tv := by
  have h1 := h.kept hb (Kept.below hb)
  exact ⟨h1.blk, Nat.lt_of_lt_of_le h1.lt hb.size, h1.prog.mono hb.size, by
    obtain ⟨xs, base, h2, h3, h4⟩ := h1.sets
    exact ⟨xs, base, h2, h3, fun k hk => Nat.lt_of_lt_of_le (h4 k hk) hb.size⟩⟩
theorem rrun_done {w : World} {gm : Nat} {l : List Ins} {pv tv x : Value} {t : Tr} {s : St} {m : Nat} (k : Nat) (K : Int) (hKk : K = k) (hK : k ≤ 100000000) (hR : goF l k 0 (startS t) = .done s m) (hm : RMachP w w.heap.size gm l pv tv) (hx : NodeP 163 w t x) (ht : t.size ≤ 2000000) (hv : validB l = true) :
    Calls Try.prog 97 #[.pointer (some ⟨gm, 0, none⟩), x, .int .i64 K] w (RRunOut w (getR s.regs 0) m 0) := by
  subst hKk
  have := rrun_any w gm l pv tv t x k hK hm hx ht (validB_all hv) (validB_len hv)
  rw [hR] at this
  exact this
theorem rrun_fuel {w : World} {gm : Nat} {l : List Ins} {pv tv x : Value} {t : Tr} {s : St} {m : Nat} (k : Nat) (K : Int) (hKk : K = k) (hK : k ≤ 100000000) (hR : goF l k 0 (startS t) = .fuel s m) (hm : RMachP w w.heap.size gm l pv tv) (hx : NodeP 163 w t x) (ht : t.size ≤ 2000000) (hv : validB l = true) :
    Calls Try.prog 97 #[.pointer (some ⟨gm, 0, none⟩), x, .int .i64 K] w (RRunOut w .nil 0 7) := by
  subst hKk
  have := rrun_any w gm l pv tv t x k hK hm hx ht (validB_all hv) (validB_len hv)
  rw [hR] at this
  exact this
theorem rrun_big {w : World} {gm : Nat} {l : List Ins} {pv tv x : Value} {t : Tr} (k : Nat) (K : Int) (hKk : K = k) (hK : k ≤ 100000000) (hR : goF l k 0 (startS t) = .big) (hm : RMachP w w.heap.size gm l pv tv) (hx : NodeP 163 w t x) (ht : t.size ≤ 2000000) (hv : validB l = true) :
    Calls Try.prog 97 #[.pointer (some ⟨gm, 0, none⟩), x, .int .i64 K] w (RRunOut w .nil 0 3) := by
  subst hKk
  have := rrun_any w gm l pv tv t x k hK hm hx ht (validB_all hv) (validB_len hv)
  rw [hR] at this
  exact this
theorem done_size {l : List Ins} {k m : Nat} {t : Tr} {s : St} (hv : validB l = true) (ht : t.size ≤ 2000000) (hR : goF l k 0 (startS t) = .done s m) : (getR s.regs 0).size ≤ 2000000 := by
  have hg := (goF_good (validB_all hv) (f := k) (n := 0) (Good.start l.length t ht)).1 s m hR
  unfold getR
  cases h : s.regs[(0 : Int).toNat]? with
  | none => simp [Tr.size]
  | some x => exact hg.2.2 x (List.mem_of_getElem? h)
theorem done_le {l : List Ins} {k m : Nat} {t : Tr} {s : St} (hR : goF l k 0 (startS t) = .done s m) : m ≤ k := by
  rcases goF_how l k 0 (startS t) with ⟨s', m', h1, h2, _⟩ | ⟨s', h1, _⟩ | ⟨s', m', h1, _⟩
  · rw [hR] at h1; injection h1 with _ h; omega
  · rw [hR] at h1; cases h1
  · rw [hR] at h1; cases h1
theorem read_code (l : List Ins) (hv : validB l = true) (hs : codeN l ≤ 2000000) (w : World) :
    Calls Try.prog 59 #[.string (codeOf l)] w fun e w' => ∃ p, e = .returned (.pointer p) ∧ NodeP 163 w' (codeT l) (.pointer p) ∧ Below w.heap.size w w' := by
  rw [codeOf_TS (validB_all hv)]
  exact read_ok (codeT l) (by rw [codeT_size hv]; exact hs) w
set_option maxRecDepth 20000 in
set_option maxHeartbeats 4000000 in
theorem follows_any (vp vq x y : Value) (P Q : List Ins) (t u : Tr) (c : Nat) (hc : c ≤ 1000000) (w : World) (hhP : InsRow w w.heap.size vp P) (hhQ : InsRow w w.heap.size vq Q) (vP : validB P = true) (vQ : validB Q = true) (hx : NodeP 163 w t x) (hy : NodeP 163 w u y) (ht : t.size ≤ 2000000) (hu : u.size ≤ 2000000) (hf : FollowP P t Q u c) :
    Calls Try.prog 60 #[vp, x, vq, y, .int .i64 c] w fun e w' => e = .returned (.bool true) ∧ Below w.heap.size w w' := by
  obtain ⟨xp, rfl⟩ := hx.ptr
  obtain ⟨yp, rfl⟩ := hy.ptr
  obtain ⟨pa, pc, rfl⟩ := hhP.len
  obtain ⟨qa, qc, rfl⟩ := hhQ.len
  obtain ⟨pn, hpn⟩ : ∃ n, P.length = n := ⟨_, rfl⟩
  obtain ⟨qn, hqn⟩ : ∃ n, Q.length = n := ⟨_, rfl⟩
  rw [hpn] at hhP ⊢
  rw [hqn] at hhQ ⊢
  have hP := Lib.hid hhP
  have hQ := Lib.hid hhQ
  have hX := Lib.hid hx
  have hY := Lib.hid hy
  have hcI : (c : Int) ≤ 1000000 := by omega
  have vP := Lib.hid vP
  have vQ := Lib.hid vQ
  have HT := Lib.hid ht
  have HU := Lib.hid hu
  have HC := Lib.hid hc
  have hF := Lib.hid hf
  clear hhP hhQ hpn hqn hx hy ht hu hc hf
  rcases hF.out 20000 with ⟨s, s', m, g1, g2, g3, g4⟩ | ⟨s, g1, ⟨s', g3⟩ | g3⟩ | ⟨g1, g3⟩
  · skip
    have ch := Lib.hid (Below.refl w.heap.size w)
    have G1 := Lib.hid g1
    have G3 := Lib.hid g3
    have G4 := Lib.hid g4
    have SZ := Lib.hid (done_size vQ.out HU.out g1)
    have hmI : (m : Int) ≤ 20000 := by omega
    clear g1 g2 g3 g4
    go_enter Try.func60, Try.ntmps60
    go_wp2_with fail
    refine (load_any _ Q _ hQ.out vQ.out).mono ?_
    rintro e w1 ⟨gq, tq, rfl, hMq, hq⟩
    have hX := Lib.hid (hX.out.kept (Kept.below hq))
    have hY := Lib.hid (hY.out.kept (Kept.below hq))
    have hP := Lib.hid ((hP.out.below hq).mono hq.size)
    have hQ := Lib.hid ((hQ.out.below hq).mono hq.size)
    have ch := Lib.hid (ch.out.trans (hq.mono ch.out.size))
    clear hq
    have hMq := Lib.hid hMq
    go_wp2_with fail
    refine (rrun_done 20000 _ (by omega) (by omega) G1.out hMq.out hY.out HU.out vQ.out).mono ?_
    rintro e w2 ⟨ra, rfl, hA, hq⟩
    have hX := Lib.hid (hX.out.kept (Kept.below hq))
    have hY := Lib.hid (hY.out.kept (Kept.below hq))
    have hMq := Lib.hid (mach_lift hMq.out hq)
    have hP := Lib.hid ((hP.out.below hq).mono hq.size)
    have hQ := Lib.hid ((hQ.out.below hq).mono hq.size)
    have ch := Lib.hid (ch.out.trans (hq.mono ch.out.size))
    clear hq
    clear hMq
    have hA := Lib.hid hA
    go_wp2_with fail
    refine (load_any _ P _ hP.out vP.out).mono ?_
    rintro e w3 ⟨gp, tp, rfl, hMp, hq⟩
    have hX := Lib.hid (hX.out.kept (Kept.below hq))
    have hY := Lib.hid (hY.out.kept (Kept.below hq))
    have hA := Lib.hid (hA.out.kept (Kept.below hq))
    have hP := Lib.hid ((hP.out.below hq).mono hq.size)
    have hQ := Lib.hid ((hQ.out.below hq).mono hq.size)
    have ch := Lib.hid (ch.out.trans (hq.mono ch.out.size))
    clear hq
    have hMp := Lib.hid hMp
    go_wp2_with fail
    refine (rrun_done (20000 + c) _ (by omega) (by have := HC.out; omega) G3.out hMp.out hX.out HT.out vP.out).mono ?_
    rintro e w4 ⟨rb, rfl, hB, hq⟩
    have hX := Lib.hid (hX.out.kept (Kept.below hq))
    have hY := Lib.hid (hY.out.kept (Kept.below hq))
    have hA := Lib.hid (hA.out.kept (Kept.below hq))
    have hMp := Lib.hid (mach_lift hMp.out hq)
    have hP := Lib.hid ((hP.out.below hq).mono hq.size)
    have hQ := Lib.hid ((hQ.out.below hq).mono hq.size)
    have ch := Lib.hid (ch.out.trans (hq.mono ch.out.size))
    clear hq
    clear hMp
    have hB := Lib.hid hB
    have hB := Lib.hid (show NodeP 163 _ (getR s.regs 0) _ by rw [← G4.out]; exact hB.out)
    go_wp2_with fail
    refine (equal_self _ _ _ _ hA.out hB.out (by have := SZ.out; omega)).mono ?_
    rintro e w5 ⟨rfl, hq⟩
    have hX := Lib.hid (hX.out.kept (Kept.below hq))
    have hY := Lib.hid (hY.out.kept (Kept.below hq))
    have hA := Lib.hid (hA.out.kept (Kept.below hq))
    have hB := Lib.hid (hB.out.kept (Kept.below hq))
    have hP := Lib.hid ((hP.out.below hq).mono hq.size)
    have hQ := Lib.hid ((hQ.out.below hq).mono hq.size)
    have ch := Lib.hid (ch.out.trans (hq.mono ch.out.size))
    clear hq
    go_wp2
    go_ret
    exact ⟨rfl, ch.out⟩
  · skip
    have ch := Lib.hid (Below.refl w.heap.size w)
    have G1 := Lib.hid g1
    have G3 := Lib.hid g3
    clear g1 g3
    go_enter Try.func60, Try.ntmps60
    go_wp2_with fail
    refine (load_any _ Q _ hQ.out vQ.out).mono ?_
    rintro e w1 ⟨gq, tq, rfl, hMq, hq⟩
    have hX := Lib.hid (hX.out.kept (Kept.below hq))
    have hY := Lib.hid (hY.out.kept (Kept.below hq))
    have hP := Lib.hid ((hP.out.below hq).mono hq.size)
    have hQ := Lib.hid ((hQ.out.below hq).mono hq.size)
    have ch := Lib.hid (ch.out.trans (hq.mono ch.out.size))
    clear hq
    have hMq := Lib.hid hMq
    go_wp2_with fail
    refine (rrun_fuel 20000 _ (by omega) (by omega) G1.out hMq.out hY.out HU.out vQ.out).mono ?_
    rintro e w2 ⟨ra, rfl, hA, hq⟩
    have hX := Lib.hid (hX.out.kept (Kept.below hq))
    have hY := Lib.hid (hY.out.kept (Kept.below hq))
    have hMq := Lib.hid (mach_lift hMq.out hq)
    have hP := Lib.hid ((hP.out.below hq).mono hq.size)
    have hQ := Lib.hid ((hQ.out.below hq).mono hq.size)
    have ch := Lib.hid (ch.out.trans (hq.mono ch.out.size))
    clear hq
    clear hMq
    have hA := Lib.hid hA
    go_wp2_with fail
    refine (load_any _ P _ hP.out vP.out).mono ?_
    rintro e w3 ⟨gp, tp, rfl, hMp, hq⟩
    have hX := Lib.hid (hX.out.kept (Kept.below hq))
    have hY := Lib.hid (hY.out.kept (Kept.below hq))
    have hA := Lib.hid (hA.out.kept (Kept.below hq))
    have hP := Lib.hid ((hP.out.below hq).mono hq.size)
    have hQ := Lib.hid ((hQ.out.below hq).mono hq.size)
    have ch := Lib.hid (ch.out.trans (hq.mono ch.out.size))
    clear hq
    have hMp := Lib.hid hMp
    go_wp2_with fail
    refine (rrun_fuel (20000 + c) _ (by omega) (by have := HC.out; omega) G3.out hMp.out hX.out HT.out vP.out).mono ?_
    rintro e w4 ⟨rb, rfl, hB, hq⟩
    have hX := Lib.hid (hX.out.kept (Kept.below hq))
    have hY := Lib.hid (hY.out.kept (Kept.below hq))
    have hA := Lib.hid (hA.out.kept (Kept.below hq))
    have hMp := Lib.hid (mach_lift hMp.out hq)
    have hP := Lib.hid ((hP.out.below hq).mono hq.size)
    have hQ := Lib.hid ((hQ.out.below hq).mono hq.size)
    have ch := Lib.hid (ch.out.trans (hq.mono ch.out.size))
    clear hq
    clear hMp
    have hB := Lib.hid hB
    go_wp2
    go_ret
    exact ⟨rfl, ch.out⟩
  · skip
    have ch := Lib.hid (Below.refl w.heap.size w)
    have G1 := Lib.hid g1
    have G3 := Lib.hid g3
    clear g1 g3
    go_enter Try.func60, Try.ntmps60
    go_wp2_with fail
    refine (load_any _ Q _ hQ.out vQ.out).mono ?_
    rintro e w1 ⟨gq, tq, rfl, hMq, hq⟩
    have hX := Lib.hid (hX.out.kept (Kept.below hq))
    have hY := Lib.hid (hY.out.kept (Kept.below hq))
    have hP := Lib.hid ((hP.out.below hq).mono hq.size)
    have hQ := Lib.hid ((hQ.out.below hq).mono hq.size)
    have ch := Lib.hid (ch.out.trans (hq.mono ch.out.size))
    clear hq
    have hMq := Lib.hid hMq
    go_wp2_with fail
    refine (rrun_fuel 20000 _ (by omega) (by omega) G1.out hMq.out hY.out HU.out vQ.out).mono ?_
    rintro e w2 ⟨ra, rfl, hA, hq⟩
    have hX := Lib.hid (hX.out.kept (Kept.below hq))
    have hY := Lib.hid (hY.out.kept (Kept.below hq))
    have hMq := Lib.hid (mach_lift hMq.out hq)
    have hP := Lib.hid ((hP.out.below hq).mono hq.size)
    have hQ := Lib.hid ((hQ.out.below hq).mono hq.size)
    have ch := Lib.hid (ch.out.trans (hq.mono ch.out.size))
    clear hq
    clear hMq
    have hA := Lib.hid hA
    go_wp2_with fail
    refine (load_any _ P _ hP.out vP.out).mono ?_
    rintro e w3 ⟨gp, tp, rfl, hMp, hq⟩
    have hX := Lib.hid (hX.out.kept (Kept.below hq))
    have hY := Lib.hid (hY.out.kept (Kept.below hq))
    have hA := Lib.hid (hA.out.kept (Kept.below hq))
    have hP := Lib.hid ((hP.out.below hq).mono hq.size)
    have hQ := Lib.hid ((hQ.out.below hq).mono hq.size)
    have ch := Lib.hid (ch.out.trans (hq.mono ch.out.size))
    clear hq
    have hMp := Lib.hid hMp
    go_wp2_with fail
    refine (rrun_big (20000 + c) _ (by omega) (by have := HC.out; omega) G3.out hMp.out hX.out HT.out vP.out).mono ?_
    rintro e w4 ⟨rb, rfl, hB, hq⟩
    have hX := Lib.hid (hX.out.kept (Kept.below hq))
    have hY := Lib.hid (hY.out.kept (Kept.below hq))
    have hA := Lib.hid (hA.out.kept (Kept.below hq))
    have hMp := Lib.hid (mach_lift hMp.out hq)
    have hP := Lib.hid ((hP.out.below hq).mono hq.size)
    have hQ := Lib.hid ((hQ.out.below hq).mono hq.size)
    have ch := Lib.hid (ch.out.trans (hq.mono ch.out.size))
    clear hq
    clear hMp
    have hB := Lib.hid hB
    go_wp2
    go_ret
    exact ⟨rfl, ch.out⟩
  · skip
    have ch := Lib.hid (Below.refl w.heap.size w)
    have G1 := Lib.hid g1
    have G3 := Lib.hid g3
    clear g1 g3
    go_enter Try.func60, Try.ntmps60
    go_wp2_with fail
    refine (load_any _ Q _ hQ.out vQ.out).mono ?_
    rintro e w1 ⟨gq, tq, rfl, hMq, hq⟩
    have hX := Lib.hid (hX.out.kept (Kept.below hq))
    have hY := Lib.hid (hY.out.kept (Kept.below hq))
    have hP := Lib.hid ((hP.out.below hq).mono hq.size)
    have hQ := Lib.hid ((hQ.out.below hq).mono hq.size)
    have ch := Lib.hid (ch.out.trans (hq.mono ch.out.size))
    clear hq
    have hMq := Lib.hid hMq
    go_wp2_with fail
    refine (rrun_big 20000 _ (by omega) (by omega) G1.out hMq.out hY.out HU.out vQ.out).mono ?_
    rintro e w2 ⟨ra, rfl, hA, hq⟩
    have hX := Lib.hid (hX.out.kept (Kept.below hq))
    have hY := Lib.hid (hY.out.kept (Kept.below hq))
    have hMq := Lib.hid (mach_lift hMq.out hq)
    have hP := Lib.hid ((hP.out.below hq).mono hq.size)
    have hQ := Lib.hid ((hQ.out.below hq).mono hq.size)
    have ch := Lib.hid (ch.out.trans (hq.mono ch.out.size))
    clear hq
    clear hMq
    have hA := Lib.hid hA
    go_wp2_with fail
    refine (load_any _ P _ hP.out vP.out).mono ?_
    rintro e w3 ⟨gp, tp, rfl, hMp, hq⟩
    have hX := Lib.hid (hX.out.kept (Kept.below hq))
    have hY := Lib.hid (hY.out.kept (Kept.below hq))
    have hA := Lib.hid (hA.out.kept (Kept.below hq))
    have hP := Lib.hid ((hP.out.below hq).mono hq.size)
    have hQ := Lib.hid ((hQ.out.below hq).mono hq.size)
    have ch := Lib.hid (ch.out.trans (hq.mono ch.out.size))
    clear hq
    have hMp := Lib.hid hMp
    go_wp2_with fail
    refine (rrun_big (20000 + c) _ (by omega) (by have := HC.out; omega) G3.out hMp.out hX.out HT.out vP.out).mono ?_
    rintro e w4 ⟨rb, rfl, hB, hq⟩
    have hX := Lib.hid (hX.out.kept (Kept.below hq))
    have hY := Lib.hid (hY.out.kept (Kept.below hq))
    have hA := Lib.hid (hA.out.kept (Kept.below hq))
    have hMp := Lib.hid (mach_lift hMp.out hq)
    have hP := Lib.hid ((hP.out.below hq).mono hq.size)
    have hQ := Lib.hid ((hQ.out.below hq).mono hq.size)
    have ch := Lib.hid (ch.out.trans (hq.mono ch.out.size))
    clear hq
    clear hMp
    have hB := Lib.hid hB
    go_wp2
    go_ret
    exact ⟨rfl, ch.out⟩
end Go.Proofs.Ytdjbcmfjlfkcjaa


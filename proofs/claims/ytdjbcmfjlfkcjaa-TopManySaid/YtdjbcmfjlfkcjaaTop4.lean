/- narcissustop: play, returns, lasts. -/
import Derived.Test.YtdjbcmfjlfkcjaaTop3
import Derived.Test.YtdjbcmfjlfkcjaaTopP
namespace Go.Proofs.Ytdjbcmfjlfkcjaa
open Go.RowKit

def PlayOut (w : World) (r : Res) (e : Ending) (w' : World) : Prop := ∃ q k, e = .returned (.tuple #[.pointer q, .int .i64 k, .int .i64 r.fol.2]) ∧ NodeP 101 w' r.fol.1 (.pointer q) ∧ (∀ s j, r = .done s j → k = j) ∧ Below w.heap.size w w'
theorem tplay_any (v : Value) (l : List Ins) (t : Tr) (x : Value) (K : Nat) (hK : K ≤ 100000000) (w : World) (hl : InsRow w w.heap.size v l) (hv : validB l = true) (hx : NodeP 101 w t x) (ht : t.size ≤ 2000000)
    : Calls Try.prog 25 #[v, x, .int .i64 K] w (PlayOut w (goF l K 0 (startS t))) := by
  have kf := Lib.hid (fol_start v l t x K hK w hl hv hx ht)
  obtain ⟨R, hR⟩ : ∃ R, goF l K 0 (startS t) = R := ⟨_, rfl⟩
  rw [hR] at kf ⊢
  obtain ⟨ao, cap, rfl⟩ := hl.len
  obtain ⟨xp, rfl⟩ := hx.ptr
  clear hR hl hv hx ht
  go_enter Try.func25, Try.ntmps25
  go_wp2_with fail
  refine kf.out.mono ?_
  rintro e w1 ⟨q, k, m, rfl, hn, hk, hb⟩
  have HN := Lib.hid hn
  have HK := Lib.hid hk
  have HB := Lib.hid hb
  obtain ⟨F2, hF2⟩ : ∃ z, R.fol.2 = z := ⟨_, rfl⟩
  rw [hF2]
  have HF := Lib.hid hF2
  clear hn hk hb hF2 kf
  go_wp2
  refine bodyPost_ret (v := .tuple #[.pointer q, .int .i64 k, .int .i64 F2]) (by simp [results, Try.results25, go_sem]) rfl ?_
  exact ⟨q, k, by rw [HF.out], HN.out, HK.out, HB.out⟩
theorem tplay_done {v x : Value} {l : List Ins} {t : Tr} {s : St} {m : Nat} (k : Nat) (K : Int) (hKk : K = k) (hK : k ≤ 100000000) (hR : goF l k 0 (startS t) = .done s m) {w : World} (hl : InsRow w w.heap.size v l) (hv : validB l = true) (hx : NodeP 101 w t x) (ht : t.size ≤ 2000000) :
    Calls Try.prog 25 #[v, x, .int .i64 K] w fun e w' => ∃ q, e = .returned (.tuple #[.pointer q, .int .i64 m, .int .i64 0]) ∧ NodeP 101 w' (getR s.regs 0) (.pointer q) ∧ Below w.heap.size w w' := by
  subst hKk
  refine (tplay_any v l t x k hK w hl hv hx ht).mono ?_
  rintro e w' ⟨q, j, h1, h2, h3, h4⟩
  rw [hR] at h1 h2 h3
  have := h3 s m rfl
  subst this
  exact ⟨q, h1, h2, h4⟩
theorem tplay_fuel {v x : Value} {l : List Ins} {t : Tr} {s : St} {m : Nat} (k : Nat) (K : Int) (hKk : K = k) (hK : k ≤ 100000000) (hR : goF l k 0 (startS t) = .fuel s m) {w : World} (hl : InsRow w w.heap.size v l) (hv : validB l = true) (hx : NodeP 101 w t x) (ht : t.size ≤ 2000000) :
    Calls Try.prog 25 #[v, x, .int .i64 K] w fun e w' => ∃ q j, e = .returned (.tuple #[.pointer q, .int .i64 j, .int .i64 1]) ∧ Below w.heap.size w w' := by
  subst hKk
  refine (tplay_any v l t x k hK w hl hv hx ht).mono ?_
  rintro e w' ⟨q, j, h1, h2, h3, h4⟩
  rw [hR] at h1
  exact ⟨q, j, h1, h4⟩
theorem tplay_big {v x : Value} {l : List Ins} {t : Tr} (k : Nat) (K : Int) (hKk : K = k) (hK : k ≤ 100000000) (hR : goF l k 0 (startS t) = .big) {w : World} (hl : InsRow w w.heap.size v l) (hv : validB l = true) (hx : NodeP 101 w t x) (ht : t.size ≤ 2000000) :
    Calls Try.prog 25 #[v, x, .int .i64 K] w fun e w' => ∃ q j, e = .returned (.tuple #[.pointer q, .int .i64 j, .int .i64 2]) ∧ Below w.heap.size w w' := by
  subst hKk
  refine (tplay_any v l t x k hK w hl hv hx ht).mono ?_
  rintro e w' ⟨q, j, h1, h2, h3, h4⟩
  rw [hR] at h1
  exact ⟨q, j, h1, h4⟩
theorem goF_size {l : List Ins} (hv : validB l = true) {k m : Nat} {t : Tr} {s : St} (ht : t.size ≤ 2000000) (hR : goF l k 0 (startS t) = .done s m) : (getR s.regs 0).size ≤ 2000000 := by
  have hg := (goF_good (validB_all hv) (f := k) (n := 0) (Good.start l.length t ht)).1 s m hR
  unfold getR
  cases h : s.regs[(0 : Int).toNat]? with
  | none => simp [Tr.size]
  | some x => exact hg.2.2 x (List.mem_of_getElem? h)
theorem goF_steps {l : List Ins} {k m : Nat} {t : Tr} {s : St} (hR : goF l k 0 (startS t) = .done s m) : m ≤ k := by
  rcases goF_how l k 0 (startS t) with ⟨s', m', h1, h2, _⟩ | ⟨s', h1, _⟩ | ⟨s', m', h1, _⟩
  · rw [hR] at h1; injection h1 with _ h; omega
  · rw [hR] at h1; cases h1
  · rw [hR] at h1; cases h1
/-- Returned with OK, valid, and returns this tree after just so many steps. -/
theorem treturns_ok {v x y : Value} {l : List Ins} {t u : Tr} (k : Nat) (K : Int) (hKk : K = k) (hK : k ≤ 1000000) {w : World} (hhL : InsRow w w.heap.size v l) (hv : validB l = true) (hx : NodeP 101 w t x) (hy : NodeP 101 w u y) (ht : t.size ≤ 2000000) (hR : ∃ s, goF l k 0 (startS t) = .done s k ∧ getR s.regs 0 = u) :
    Calls Try.prog 28 #[v, .int .i64 0, x, y, .int .i64 K] w fun e w' => e = .returned (.bool true) ∧ Below w.heap.size w w' := by
  subst hKk
  obtain ⟨s, hR, hu⟩ := hR
  obtain ⟨la, lc, rfl⟩ := hhL.len
  obtain ⟨ln, hln⟩ : ∃ n, l.length = n := ⟨_, rfl⟩
  rw [hln] at hhL ⊢
  obtain ⟨xp, rfl⟩ := hx.ptr
  obtain ⟨yp, rfl⟩ := hy.ptr
  have hsz := goF_size hv ht hR
  rw [hu] at hsz
  have hL := Lib.hid hhL
  have hX := Lib.hid hx
  have hY := Lib.hid hy
  have HV := Lib.hid hv
  have HT := Lib.hid ht
  have HR := Lib.hid hR
  have HU := Lib.hid hu
  have HSZ := Lib.hid hsz
  have hKI : (k : Int) ≤ 1000000 := by omega
  have HK := Lib.hid hK
  clear hhL hln hx hy hv ht hR hu hsz hK
  have ch := Lib.hid (Below.refl w.heap.size w)
  go_enter Try.func28, Try.ntmps28
  go_wp2_with fail
  refine (twhole_any _ l true HV.out _ hL.out).mono ?_
  rintro e w1 ⟨rfl, hq⟩
  have hX := Lib.hid (hX.out.kept (Kept.below hq))
  have hY := Lib.hid (hY.out.kept (Kept.below hq))
  have hL := Lib.hid ((hL.out.below hq).mono hq.size)
  have ch := Lib.hid (ch.out.trans (hq.mono ch.out.size))
  clear hq
  go_wp2_with fail
  refine (tplay_done k _ rfl (by have := HK.out; omega) HR.out hL.out HV.out hX.out HT.out).mono ?_
  rintro e w2 ⟨q, rfl, hZ, hq⟩
  have hX := Lib.hid (hX.out.kept (Kept.below hq))
  have hY := Lib.hid (hY.out.kept (Kept.below hq))
  have hL := Lib.hid ((hL.out.below hq).mono hq.size)
  have ch := Lib.hid (ch.out.trans (hq.mono ch.out.size))
  clear hq
  have hZ := Lib.hid hZ
  have hZ := Lib.hid (show NodeP 101 _ u _ by rw [← HU.out]; exact hZ.out)
  have kq := Lib.hid (tequal_any u u _ _ _ hZ.out hY.out (by have := HSZ.out; omega) (by have := HSZ.out; omega))
  rw [decide_eq_true rfl] at kq
  go_wp2_with fail
  refine (kq.out).mono ?_
  rintro e w3 ⟨rfl, hq⟩
  have hX := Lib.hid (hX.out.kept (Kept.below hq))
  have hY := Lib.hid (hY.out.kept (Kept.below hq))
  have hZ := Lib.hid (hZ.out.kept (Kept.below hq))
  have hL := Lib.hid ((hL.out.below hq).mono hq.size)
  have ch := Lib.hid (ch.out.trans (hq.mono ch.out.size))
  clear hq
  go_wp2
  go_ret
  exact ⟨rfl, ch.out⟩
/-- Returned with OK, valid, and not ended after so many steps. -/
theorem tlasts_ok {v x : Value} {l : List Ins} {t : Tr} (k : Nat) (K : Int) (hKk : K = k) (hK : k ≤ 1000000) {w : World} (hhL : InsRow w w.heap.size v l) (hv : validB l = true) (hx : NodeP 101 w t x) (ht : t.size ≤ 2000000) (hR : NotD l (startS t) k) :
    Calls Try.prog 27 #[v, .int .i64 0, x, .int .i64 K] w fun e w' => e = .returned (.bool true) ∧ Below w.heap.size w w' := by
  subst hKk
  obtain ⟨la, lc, rfl⟩ := hhL.len
  obtain ⟨ln, hln⟩ : ∃ n, l.length = n := ⟨_, rfl⟩
  rw [hln] at hhL ⊢
  obtain ⟨xp, rfl⟩ := hx.ptr
  have hL := Lib.hid hhL
  have hX := Lib.hid hx
  have HV := Lib.hid hv
  have HT := Lib.hid ht
  have HR := Lib.hid hR
  have hKI : (k : Int) ≤ 1000000 := by omega
  have HK := Lib.hid hK
  clear hhL hln hx hv ht hR hK
  cases hg : goF l k 0 (startS t) with
  | done s m => exact absurd hg (HR.out s m)
  | fuel s m =>
    have ch := Lib.hid (Below.refl w.heap.size w)
    have HG := Lib.hid hg
    clear hg
    go_enter Try.func27, Try.ntmps27
    go_wp2_with fail
    refine (twhole_any _ l true HV.out _ hL.out).mono ?_
    rintro e w1 ⟨rfl, hq⟩
    have hX := Lib.hid (hX.out.kept (Kept.below hq))
    have hL := Lib.hid ((hL.out.below hq).mono hq.size)
    have ch := Lib.hid (ch.out.trans (hq.mono ch.out.size))
    clear hq
    go_wp2_with fail
    refine (tplay_fuel k _ rfl (by have := HK.out; omega) HG.out hL.out HV.out hX.out HT.out).mono ?_
    rintro e w2 ⟨q, j, rfl, hq⟩
    have hX := Lib.hid (hX.out.kept (Kept.below hq))
    have hL := Lib.hid ((hL.out.below hq).mono hq.size)
    have ch := Lib.hid (ch.out.trans (hq.mono ch.out.size))
    clear hq
    go_wp2
    go_ret
    exact ⟨rfl, ch.out⟩
  | big =>
    have ch := Lib.hid (Below.refl w.heap.size w)
    have HG := Lib.hid hg
    clear hg
    go_enter Try.func27, Try.ntmps27
    go_wp2_with fail
    refine (twhole_any _ l true HV.out _ hL.out).mono ?_
    rintro e w1 ⟨rfl, hq⟩
    have hX := Lib.hid (hX.out.kept (Kept.below hq))
    have hL := Lib.hid ((hL.out.below hq).mono hq.size)
    have ch := Lib.hid (ch.out.trans (hq.mono ch.out.size))
    clear hq
    go_wp2_with fail
    refine (tplay_big k _ rfl (by have := HK.out; omega) HG.out hL.out HV.out hX.out HT.out).mono ?_
    rintro e w2 ⟨q, j, rfl, hq⟩
    have hX := Lib.hid (hX.out.kept (Kept.below hq))
    have hL := Lib.hid ((hL.out.below hq).mono hq.size)
    have ch := Lib.hid (ch.out.trans (hq.mono ch.out.size))
    clear hq
    go_wp2
    go_ret
    exact ⟨rfl, ch.out⟩
end Go.Proofs.Ytdjbcmfjlfkcjaa


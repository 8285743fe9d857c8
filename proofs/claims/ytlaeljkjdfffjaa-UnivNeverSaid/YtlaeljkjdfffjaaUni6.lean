/- law06: peak. -/
import Derived.Test.YtlaeljkjdfffjaaMB1
import Derived.Test.YtlaeljkjdfffjaaFollow7
import Derived.Test.YtlaeljkjdfffjaaUnivY
namespace Go.Proofs.Ytlaeljkjdfffjaa
open Go.RowKit

theorem Runs.same {l : List Ins} : ∀ {k : Nat} {s t u : St}, Runs l k s t → Runs l k s u → t = u
  | 0, s, t, u, h, g => by
    rcases h.uncons with ⟨_, rfl⟩ | ⟨j, s', h1, _⟩
    · rcases g.uncons with ⟨_, rfl⟩ | ⟨j, s', h1, _⟩
      · rfl
      · omega
    · omega
  | k + 1, s, t, u, h, g => by
    rcases h.uncons with ⟨h0, _⟩ | ⟨j, s', h1, h2, h3, h4⟩
    · omega
    · rcases g.uncons with ⟨h0, _⟩ | ⟨j', s'', g1, g2, g3, g4⟩
      · omega
      · obtain rfl : j = k := by omega
        obtain rfl : j' = j := by omega
        rw [h3] at g3
        injection g3 with g3
        subst g3
        exact Runs.same h4 g4
theorem reach_runs {l : List Ins} {s : St} : ∀ {k : Nat}, Reach l s k → Runs l k s (stN l s k)
  | 0, _ => .refl _
  | k + 1, h => by
    have h1 := reach_runs (k := k) (fun j hj => h j (by omega))
    obtain ⟨h2, h3⟩ := h k (by omega)
    refine h1.trans ?_
    unfold stepP at h3
    split at h3
    · next x hx => exact Runs.one hx h3
    · cases h3
theorem runs_stN {l : List Ins} {s t : St} {k : Nat} (h : Runs l k s t) : ∀ {j : Nat}, Reach l s j → k ≤ j → t = stN l s k := by
  intro j hr hk
  have h1 := reach_runs (k := k) (fun i hi => hr i (by omega))
  exact Runs.same h h1
theorem sumS_succ {l : List Tr} {j : Nat} {t : Tr} (h : l[j]? = some t) : sumS (l.take (j + 1)) = sumS (l.take j) + t.size := by
  rw [List.take_add_one, h, sumS_append]
  simp [sumS]
theorem sumS_le {l : List Tr} (h : ∀ t ∈ l, t.size ≤ 2000000) : sumS l ≤ 2000000 * l.length := by
  induction l with
  | nil => simp [sumS]
  | cons t l ih =>
    have h1 := ih (fun u hu => h u (List.mem_cons_of_mem _ hu))
    have h2 := h t (List.mem_cons_self ..)
    rw [sumS_cons, List.length_cons]
    omega
/-- The greatest sum so far. -/
def peakN (l : List Ins) (s : St) : Nat → Nat
  | 0 => 0
  | j + 1 => max (peakN l s j) (sumS (stN l s j).regs)
theorem peakN_le {l : List Ins} {s : St} : ∀ {k j : Nat}, j < k → sumS (stN l s j).regs ≤ peakN l s k
  | k + 1, j, h => by
    unfold peakN
    by_cases e : j = k
    · subst e; omega
    · have := peakN_le (l := l) (s := s) (k := k) (j := j) (by omega); omega
theorem peakN_small {l : List Ins} {s : St} (hv : rightAll l = true) (hg : Good l.length s) : ∀ {k : Nat}, Reach l s (k - 1) → peakN l s k ≤ 64000000
  | 0, _ => by simp [peakN]
  | k + 1, h => by
    have h1 := peakN_small hv hg (k := k) (fun j hj => h j (by omega))
    have h2 := h.good hv hg
    have h3 := sumS_le h2.2.2
    rw [h2.2.1] at h3
    unfold peakN
    simp only [Nat.add_sub_cancel] at h3
    omega
theorem getR_of0 {rs : List Tr} {t : Tr} (h : rs[0]? = some t) : getR rs 0 = t := by unfold getR; show rs[0]?.getD .nil = t; rw [h]; rfl
/-- Nothing goes on behind the end, nor where a step is too large. -/
theorem runs_stuck {l : List Ins} {j k : Nat} {s0 S s' : St} (h : Runs l j s0 S) (hs : stepP l S = none) (hr : Runs l k s0 s') (hk : j < k) : False := by
  obtain ⟨d, rfl⟩ : ∃ d, k = j + (d + 1) := ⟨k - j - 1, by omega⟩
  clear hk
  induction j generalizing s0 with
  | zero =>
    rcases h.uncons with ⟨_, rfl⟩ | ⟨i, s1, h1, _⟩
    · rcases hr.uncons with ⟨h0, _⟩ | ⟨i, s1, h1, h2, h3, h4⟩
      · omega
      · rw [hs] at h3; cases h3
    · omega
  | succ j ih =>
    rcases h.uncons with ⟨h0, _⟩ | ⟨i, s1, h1, h2, h3, h4⟩
    · omega
    · rcases hr.uncons with ⟨h0, _⟩ | ⟨i', s2, g1, g2, g3, g4⟩
      · omega
      · obtain rfl : i = j := by omega
        obtain rfl : i' = i + (d + 1) := by omega
        rw [h3] at g3
        injection g3 with g3
        subst g3
        exact ih h4 g4
theorem runs_past {l : List Ins} {j k : Nat} {s0 S s' : St} (h : Runs l j s0 S) (hs : S.pos = l.length) (hr : Runs l k s0 s') (hk : j < k) : False :=
  runs_stuck h (by unfold stepP; rw [hs, List.getElem?_eq_none (Nat.le_refl _)]) hr hk
/-- What peak hands back. -/
def PeakOut (w : World) (l : List Ins) (t : Tr) (K : Nat) (e : Ending) (w' : World) : Prop :=
  ∃ (q : Option Addr) (n M : Nat) (er : Int), e = .returned (.tuple #[.pointer q, .int .i64 n, .int .i64 er, .int .i64 M]) ∧ Below w.heap.size w w' ∧ M ≤ 64000000 ∧ (∀ k s', k ≤ K → Runs l k (startS t) s' → sumS s'.regs ≤ M) ∧
    ((∃ s, goF l K 0 (startS t) = .done s n ∧ er = 0 ∧ NodeP 58 w' (getR s.regs 0) (.pointer q)) ∨ ((∃ s, goF l K 0 (startS t) = .fuel s K) ∧ er = 7 ∧ n = 0) ∨ (goF l K 0 (startS t) = .big ∧ er = 3 ∧ n = 0))
set_option maxRecDepth 20000 in
set_option maxHeartbeats 4000000 in
theorem peak_any (w : World) (gm : Nat) (l : List Ins) (pv tv : Value) (t : Tr) (x : Value) (K : Nat) (hK : K ≤ 100000000) (hm : RMachP w w.heap.size gm l pv tv) (hx : NodeP 58 w t x) (ht : t.size ≤ 2000000) (hv : rightAll l = true) (hn4 : l.length ≤ 4000) :
    Calls Try.prog 34 #[.pointer (some ⟨gm, 0, none⟩), x, .int .i64 K] w (PeakOut w l t K) := by
  have kf := rfirst_any t x w hx
  have HG := Lib.hid (Good.start l.length t ht)
  have HV := Lib.hid hv
  have HN4 := Lib.hid hn4
  obtain ⟨q, rfl⟩ := hx.ptr
  have HM := Lib.hid hm
  clear hx hv hm ht hn4
  go_enter Try.func34, Try.ntmps34
  go_wp2_with fail
  refine kf.mono ?_
  rintro e w1 ⟨gs, ps, rfl, hs, hb1⟩
  have HA := Lib.hid (show RAt w gm gs l pv tv (startS t) (.slice (some ⟨w.heap.size, 0, none⟩) 32 32) w1 from ⟨HM.out.kept hb1 (Kept.below hb1), ⟨ps, hs⟩, hb1⟩)
  clear kf hs hb1
  go_wp2
  go_loopg [11, 12] K (fun gg mo i wr => ∃ j : Nat, j ≤ K ∧ gg = K - j ∧ i = .int .i64 j ∧ mo = .int .i64 (peakN l (startS t) j) ∧ Hid (Reach l (startS t) j) ∧ Hid (RAt w gm gs l pv tv (stN l (startS t) j) (.slice (some ⟨w.heap.size, 0, none⟩) 32 32) wr))
  case atStart => exact ⟨0, by omega, rfl, rfl, rfl, Reach.zero _ _, HA.out⟩
  case round =>
    obtain ⟨j, hj, hgg, rfl, rfl, hre, hat⟩ := hrel
    have HGG := Lib.hid hgg
    have HGJ := Lib.hid (hre.out.good HV.out HG.out)
    clear hgg HA
    obtain ⟨P, hP⟩ : ∃ P, peakN l (startS t) j = P := ⟨_, rfl⟩
    have hP6 : P ≤ 64000000 := by rw [← hP]; exact peakN_small HV.out HG.out (fun i hi => hre.out i (by omega))
    rw [hP]
    have HP := Lib.hid hP
    clear hP
    obtain ⟨S, hS⟩ : ∃ S, stN l (startS t) j = S := ⟨_, rfl⟩
    rw [hS] at hat HGJ
    obtain ⟨ps1, hs1⟩ := hat.out.s
    have h32 := HGJ.out.2.1
    have hcell := (RStP.cells (by rw [h32]; exact hs1))
    rw [h32] at hcell
    obtain ⟨d0, d1, -, d2, -⟩ := hcell
    have HD := Lib.hid d2
    have HS := Lib.hid hS
    have H32 := Lib.hid h32
    have HSZ := Lib.hid (fun (m : Nat) (hm : m ≤ 32) => (show sumS (S.regs.take m) ≤ 64000000 from Nat.le_trans (sumS_take _ _) (by have := sumS_le HGJ.out.2.2; rw [h32] at this; omega)))
    clear hS hs1 d2 h32
    go_wp2
    go_loopg [13, 14] 32 (fun g2 sz i2 w2 => ∃ m : Nat, m ≤ 32 ∧ g2 = 32 - m ∧ i2 = .int .i64 m ∧ sz = .int .i64 (sumS (S.regs.take m)) ∧ wr = w2)
    case atStart => exact ⟨0, by omega, rfl, rfl, rfl, rfl⟩
    case round =>
      obtain ⟨m, hm, hg2, rfl, rfl, rfl⟩ := hrel
      have HG2 := Lib.hid hg2
      clear hg2
      by_cases hlt : m < 32
      · obtain ⟨u, hu⟩ : ∃ u, S.regs[m]? = some u := ⟨_, List.getElem?_eq_getElem (by rw [H32.out]; exact hlt)⟩
        obtain ⟨qu, cu, nu⟩ := HD.out m u hu
        have hm0 : (0 : Int) ≤ (m : Int) := Int.natCast_nonneg _
        have hm1 : (m : Int) < (32 : Int) := by omega
        have ks := rnodeSize_any u _ wr nu
        have HU := Lib.hid (sumS_succ hu)
        obtain ⟨Q, hQ⟩ : ∃ Q, sumS (S.regs.take m) = Q := ⟨_, rfl⟩
        have hQ6 : Q ≤ 64000000 := by rw [← hQ]; exact HSZ.out m (by omega)
        obtain ⟨U, hU⟩ : ∃ U, u.size = U := ⟨_, rfl⟩
        have hU6 : U ≤ 2000000 := by rw [← hU]; exact HGJ.out.2.2 u (List.mem_of_getElem? hu)
        rw [hU] at ks
        rw [hQ]
        have HQ := Lib.hid hQ
        have HUU := Lib.hid hU
        clear hu nu hQ hU
        go_wp2_with fail
        refine ks.mono ?_
        rintro e w3 ⟨rfl, rfl⟩
        clear ks
        go_wp2
        go_roundg (32 - (m + 1))
        case measure => rw [HG2.out]; omega
        case rel => exact ⟨m + 1, by omega, rfl, by go_num, by rw [HU.out, HQ.out, HUU.out]; go_num, rfl⟩
      · obtain rfl : m = 32 := by omega
        have hall : sumS (S.regs.take 32) = sumS S.regs := by rw [List.take_of_length_le (by rw [H32.out]; omega)]
        rw [hall]
        obtain ⟨Z, hZ⟩ : ∃ Z, sumS S.regs = Z := ⟨_, rfl⟩
        rw [hZ]
        have hZ6 : Z ≤ 64000000 := by rw [← hZ, ← hall]; exact HSZ.out 32 (by omega)
        obtain ⟨P2, hP2⟩ : ∃ P2, max P Z = P2 := ⟨_, rfl⟩
        have hP26 : P2 ≤ 64000000 := by omega
        have hmx : ∀ (w : World) (ts : Array TypeId) (t : TypeId), (Builtin.max_ ts t #[.int .i64 P, .int .i64 Z]).run Try.prog w = .ok (.int .i64 P2) w := by
          intro w ts t
          rw [Go.run_max_int2]
          congr 2
          split <;> omega
        have HPK := Lib.hid (show peakN l (startS t) (j + 1) = P2 by unfold peakN; rw [HP.out, HS.out, hZ]; exact hP2)
        have HALL := Lib.hid (show ∀ k s', k ≤ j → Runs l k (startS t) s' → sumS s'.regs ≤ P2 from fun k s' hk hr => by
          rw [runs_stN hr hre.out hk, ← HPK.out]
          exact peakN_le (by omega))
        clear hZ hP2 hall
        obtain ⟨be, hbe⟩ : ∃ be, (((S.pos : Int)) == (l.length : Int)) = be := ⟨_, rfl⟩
        obtain ⟨ps1, hs1⟩ := hat.out.s
        have ke := rended_at be wr _ gm gs l _ pv tv _ _ ps1 hat.out.m hs1 hbe
        have HBE := Lib.hid hbe
        clear hbe hs1
        cases be with
        | true =>
          have hfin : Hid (goF l K 0 (startS t) = .done S j) := by
            rw [hre.out.goF K hj, HS.out, goF_done (by have := eq_of_beq HBE.out; omega)]; exact rfl
          go_wp2_with fail
          refine ke.mono ?_
          rintro e w2 ⟨rfl, hb2⟩
          have HA2 := Lib.hid (hat.out.below hb2)
          obtain ⟨ps2, hs2⟩ := HA2.out.s
          have hcell2 := (RStP.cells (by rw [H32.out]; exact hs2))
          obtain ⟨e0, e1, -, e2, -⟩ := hcell2
          rw [H32.out] at e1
          obtain ⟨t0, ht0⟩ : ∃ u, S.regs[0]? = some u := ⟨_, List.getElem?_eq_getElem (by rw [H32.out]; omega)⟩
          obtain ⟨q0, c0, n0⟩ := e2 0 t0 ht0
          have HN0 := Lib.hid n0
          have HT0 := Lib.hid (show getR S.regs 0 = t0 from getR_of0 ht0)
          clear ke hb2 hs2 e2 d0 d1 ht0 n0 hmx
          go_wp2
          refine bodyPost_ret (v := .tuple #[.pointer q0, .int .i64 j, .int .i64 0, .int .i64 P2]) (by simp [results, Try.results34, go_sem]) rfl ?_
          refine ⟨q0, j, P2, 0, rfl, HA2.out.b, hP26, ?_, .inl ⟨S, hfin.out, rfl, by rw [HT0.out]; exact HN0.out⟩⟩
          intro k s' hk hr
          by_cases hkj : k ≤ j
          · exact HALL.out k s' hkj hr
          · exfalso
            have h1 := hr.eq K 0 hk
            have h2 := reach_runs hre.out
            rw [HS.out] at h2
            exact runs_past h2 (by have := eq_of_beq HBE.out; omega) hr (by omega)
        | false =>
          have hpos : S.pos ≠ l.length := by
            intro h
            have h1 := HBE.out
            rw [h] at h1
            simp at h1
          have hpl : S.pos < l.length := by have := HGJ.out.1; omega
          have HPO := Lib.hid hpos
          have HPL := Lib.hid hpl
          clear hpos hpl
          go_wp2_with fail
          refine ke.mono ?_
          rintro e w2 ⟨rfl, hb2⟩
          have HA2 := Lib.hid (hat.out.below hb2)
          clear ke hb2 d0 d1 hmx
          by_cases hlt : j < K
          · have hjk : ¬ (j : Int) = (K : Int) := by omega
            obtain ⟨ps2, hs2⟩ := HA2.out.s
            cases hst : stepP l S with
            | none =>
              have ks := refstep_none HA2.out.m hs2 (Nat.le_refl _) HGJ.out HN4.out HV.out HPL.out hst
              have hfin : Hid (goF l K 0 (startS t) = .big) := by
                rw [hre.out.goF K hj, HS.out, show K - j = (K - j - 1) + 1 by omega, goF_big HPO.out hst]; exact rfl
              have HST := Lib.hid hst
              clear hs2 hst
              go_wp2_with fail
              refine ks.mono ?_
              rintro e w3 ⟨rfl, hE⟩
              have HB3 := Lib.hid (HA2.out.b.trans hE.out.2.1)
              clear ks hE
              go_wp2
              refine bodyPost_ret (v := .tuple #[.pointer none, .int .i64 0, .int .i64 3, .int .i64 P2]) (by simp [results, Try.results34, go_sem]) rfl ?_
              refine ⟨none, 0, P2, 3, rfl, HB3.out, hP26, ?_, .inr (.inr ⟨hfin.out, rfl, rfl⟩)⟩
              intro k s' hk hr
              by_cases hkj : k ≤ j
              · exact HALL.out k s' hkj hr
              · exfalso
                have h2 := reach_runs hre.out
                rw [HS.out] at h2
                exact runs_stuck h2 HST.out hr (by omega)
            | some s' =>
              have ks := refstep_some HA2.out.m hs2 (Nat.le_refl _) HGJ.out HN4.out HV.out HPL.out hst
              have HRE := Lib.hid (hre.out.succ (by rw [HS.out]; exact HPO.out) (by rw [HS.out]; exact hst))
              have HST := Lib.hid (show stN l (startS t) (j + 1) = s' from stN_succ (by rw [HS.out]; exact hst))
              clear hs2 hst
              go_wp2_with fail
              refine ks.mono ?_
              rintro e w3 ⟨rfl, hE⟩
              have HA3 := Lib.hid (show RAt w gm gs l pv tv (stN l (startS t) (j + 1)) (.slice (some ⟨w.heap.size, 0, none⟩) 32 32) w3 from ⟨HA2.out.m.kept hE.out.2.1 hE.out.2.2, by rw [HST.out]; exact hE.out.1, HA2.out.b.trans hE.out.2.1⟩)
              clear ks hE
              go_wp2
              go_roundg (K - (j + 1))
              case measure => rw [HGG.out]; omega
              case rel => exact ⟨j + 1, by omega, rfl, by go_num, by rw [HPK.out], HRE, HA3⟩
          · obtain rfl : j = K := by omega
            have hfin : Hid (goF l j 0 (startS t) = .fuel S j) := by
              rw [hre.out.goF j hj, HS.out, Nat.sub_self, goF_zero HPO.out]; exact rfl
            go_wp2
            refine bodyPost_ret (v := .tuple #[.pointer none, .int .i64 0, .int .i64 7, .int .i64 P2]) (by simp [results, Try.results34, go_sem]) rfl ?_
            exact ⟨none, 0, P2, 7, rfl, HA2.out.b, hP26, fun k s' hk hr => HALL.out k s' hk hr, .inr (.inl ⟨⟨S, hfin.out⟩, rfl, rfl⟩)⟩
end Go.Proofs.Ytlaeljkjdfffjaa


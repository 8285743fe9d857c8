/- narcissustop: knows, TopKnow. -/
import Derived.Test.YtdjbcmfjlfkcjaaTop5
import Derived.Test.YtdjbcmfjlfkcjaaTop6
namespace Go.Proofs.Ytdjbcmfjlfkcjaa
open Go.RowKit

theorem goodB_parts {l : List Ins} {most chars : Nat} (h : goodB l most chars = true) : l.length ≤ most ∧ trees l ≤ chars ∧ rightAll l = true := by
  unfold goodB at h
  simp only [Bool.and_eq_true, decide_eq_true_eq] at h
  exact ⟨h.1.1, h.1.2, h.2⟩
theorem tknow_ok {q : List Ins} {v : Value} {w : World} (hq : InsRow w w.heap.size v q) (hk : knowE q = 0) : Calls Try.prog 67 #[v] w fun e w' => ∃ v', e = .returned (.tuple #[v', .int .i64 0]) ∧ InsRow w' w'.heap.size v' (knowL q) ∧ Below w.heap.size w w' := know0_at v q w hq hk
theorem self_is : knowD [headI] = knowL [headI] := knowD_head
theorem selfN2 : codeN (knowL [headI]) ≤ 10000 := by decide +kernel
theorem self_exact : ∃ s, goF (knowL [headI]) 20 0 (startS .nil) = .done s 20 ∧ getR s.regs 0 = codeT (knowL [headI]) := by
  have hK := knowE_facts knowE_head
  have hz := codeT_size hK.2.2.1
  have h1 := known_start knowE_head .nil (by have := selfN2; simp only [Tr.size]; omega)
  have h2 : Runs (knowL [headI]) 1 ⟨19, (startS (.pair (codeT (knowL [headI])) .nil)).regs⟩ ⟨20, codeT (knowL [headI]) :: List.replicate 31 .nil⟩ := head_run 0 0 (codeT (knowL [headI])) _ _ rfl rfl rfl
  exact ⟨_, (h1.trans h2).done (by rw [knowL_heads]; rfl) 20 (by omega), rfl⟩
set_option maxRecDepth 20000 in
set_option maxHeartbeats 4000000 in
theorem knows_any (w : World) : Calls Try.prog 66 #[] w fun e w' => e = .returned (.bool true) ∧ Below w.heap.size w w' := by
  have hK := Lib.hid (knowE_facts knowE_head)
  have ch := Lib.hid (Below.refl w.heap.size w)
  go_enter Try.func66, Try.ntmps66
  go_wp2_with fail
  refine (self7_any _).mono ?_
  rintro e w1 ⟨vp, rfl, hP, hq⟩
  have ch := Lib.hid (ch.out.trans (hq.mono ch.out.size))
  clear hq
  have hP := Lib.hid (show InsRow _ _ _ (knowL [headI]) from by have h := (hP.row (by have := knowD_len [headI]; omega)); rw [knowD_head] at h; exact h)
  go_wp2_with fail
  refine (twhole_any _ _ true hK.out.2.2.1 _ hP.out).mono ?_
  rintro e w2 ⟨rfl, hq⟩
  have hP := Lib.hid ((hP.out.below hq).mono hq.size)
  have ch := Lib.hid (ch.out.trans (hq.mono ch.out.size))
  clear hq
  go_wp2_with fail
  refine (tcode_any _ _ _ hP.out hK.out.2.2.1 hK.out.2.2.2).mono ?_
  rintro e w3 ⟨cq, rfl, hC, hq⟩
  have hP := Lib.hid ((hP.out.below hq).mono hq.size)
  have ch := Lib.hid (ch.out.trans (hq.mono ch.out.size))
  clear hq
  have hC := Lib.hid hC
  go_wp2_with fail
  refine (treturns_ok 20 _ rfl (by omega) hP.out hK.out.2.2.1 (show NodeP 101 _ .nil (.pointer none) from rfl) hC.out (by decide) self_exact).mono ?_
  rintro e w4 ⟨rfl, hq⟩
  have hC := Lib.hid (hC.out.kept (Kept.below hq))
  have hP := Lib.hid ((hP.out.below hq).mono hq.size)
  have ch := Lib.hid (ch.out.trans (hq.mono ch.out.size))
  clear hq
  go_wp2
  go_ret
  exact ⟨rfl, ch.out⟩
/-- A run that ends after m steps ends with just so much fuel. -/
theorem goF_exact {l : List Ins} {K m : Nat} {s0 s : St} (h : goF l K 0 s0 = .done s m) : goF l m 0 s0 = .done s m := by
  rcases goF_how l K 0 s0 with ⟨s', m', h1, h2, h3, h4⟩ | ⟨s', h1, _⟩ | ⟨s', m', h1, _⟩
  · rw [h, Nat.zero_add] at h1
    injection h1 with e1 e2
    subst e1; subst e2
    exact h3.done h4 m (Nat.le_refl _)
  · rw [h] at h1; cases h1
  · rw [h] at h1; cases h1
theorem tknow_code {q : List Ins} (hq : rightAll q = true) (hl : q.length ≤ 300) (ht : trees q ≤ 20000) : codeN (knowL q) ≤ 1900000 := by
  have r1 := behindL_right hq
  have l1 := knowR_len q
  have t1 := knowR_trees q
  have c1 := codeN_small (knowR q) r1 (by omega)
  have hz : (codeOf (knowR q)).size = codeN (knowR q) := by have := codeOf_len (knowR q); omega
  have hct : isTree (codeOf (knowR q)) = true := codeOf_tree r1 (by have h : codeN (knowR q) = (codeLs (knowR q)).length + 1 := rfl; omega)
  have r2 : rightAll (knowL q) = true := specL_right _ _ hct r1
  have l2 : (knowL q).length = (knowR q).length + 3 := specL_length _ _
  have t2 : trees (knowL q) = (codeOf (knowR q)).size + 1 + trees (knowR q) := specL_trees _ _
  have c2 := codeN_small (knowL q) r2 (by omega)
  omega
set_option maxRecDepth 20000 in
set_option maxHeartbeats 16000000 in
theorem law_TopKnow {w : World} (vq : Value) (q : List Ins) (hhq : InsRow w w.heap.size vq q) (x : ByteArray) (hxs : x.size ≤ 140737488355328) :
    Calls Try.prog 17 #[vq, .string x] w fun e w' => e = .returned (.bool true) ∧ Below w.heap.size w w' := by
  obtain ⟨qa, qc, rfl⟩ := hhq.len
  obtain ⟨qn, hqn⟩ : ∃ lz, q.length = lz := ⟨_, rfl⟩
  rw [hqn] at hhq ⊢
  have hq0 := Lib.hid hhq
  have HXS := Lib.hid hxs
  obtain ⟨bg, hbg⟩ : ∃ b, growB x 2000 = b := ⟨_, rfl⟩
  have HBG := Lib.hid hbg
  obtain ⟨bf, hbf⟩ : ∃ b, goodB q 200 5000 = b := ⟨_, rfl⟩
  have HBF := Lib.hid hbf
  have kg := Lib.hid (fun w => tgrow_any x hxs 2000 (by omega) w)
  have kgood := Lib.hid (fun v w hl => tgood_any v q 200 5000 (by omega) (by omega) w hl)
  rw [hbf] at kgood
  clear hhq hqn hxs hbg hbf
  cases bg with
  | false =>
    have ch := Lib.hid (Below.refl w.heap.size w)
    go_enter Try.func17, Try.ntmps17
    go_wp2_with fail
    refine (kg.out _).mono ?_
    rintro e w1 ⟨xq, rfl, hX, -, hq⟩
    have hq0 := Lib.hid ((hq0.out.below hq).mono hq.size)
    have ch := Lib.hid (ch.out.trans (hq.mono ch.out.size))
    clear hq
    rw [HBG.out]
    clear hX
    go_wp2_with fail
    refine (kgood.out _ _ hq0.out).mono ?_
    rintro e w2 ⟨rfl, hq⟩
    have hq0 := Lib.hid ((hq0.out.below hq).mono hq.size)
    have ch := Lib.hid (ch.out.trans (hq.mono ch.out.size))
    clear hq
    cases bf with
    | false =>
      go_wp2_with fail
      refine (knows_any _).mono ?_
      rintro e wz ⟨rfl, hqz⟩
      go_wp2
      go_ret
      exact ⟨rfl, ch.out.trans (hqz.mono ch.out.size)⟩
    | true =>
      go_wp2_with fail
      refine (knows_any _).mono ?_
      rintro e wz ⟨rfl, hqz⟩
      go_wp2
      go_ret
      exact ⟨rfl, ch.out.trans (hqz.mono ch.out.size)⟩
  | true =>
    have ch := Lib.hid (Below.refl w.heap.size w)
    go_enter Try.func17, Try.ntmps17
    go_wp2_with fail
    refine (kg.out _).mono ?_
    rintro e w1 ⟨xq, rfl, hX, -, hq⟩
    have hq0 := Lib.hid ((hq0.out.below hq).mono hq.size)
    have ch := Lib.hid (ch.out.trans (hq.mono ch.out.size))
    clear hq
    rw [HBG.out]
    have hX := hX HBG.out
    have hX := Lib.hid hX
    go_wp2_with fail
    refine (kgood.out _ _ hq0.out).mono ?_
    rintro e w2 ⟨rfl, hq⟩
    have hX := Lib.hid (hX.out.kept (Kept.below hq))
    have hq0 := Lib.hid ((hq0.out.below hq).mono hq.size)
    have ch := Lib.hid (ch.out.trans (hq.mono ch.out.size))
    clear hq
    cases bf with
    | false =>
      go_wp2_with fail
      refine (knows_any _).mono ?_
      rintro e wz ⟨rfl, hqz⟩
      go_wp2
      go_ret
      exact ⟨rfl, ch.out.trans (hqz.mono ch.out.size)⟩
    | true =>
      have hgp := goodB_parts HBF.out
      have VQ := Lib.hid (goodB_valid HBF.out (by omega) (by omega))
      have HK := Lib.hid (know_fits hgp.2.2 (by omega) (by omega))
      have HKF := Lib.hid (knowE_facts HK.out)
      have hlen := Lib.hid hgp.1
      have HXT := Lib.hid (show (toTr x).size ≤ 2000 by rw [growB_size HBG.out]; exact (growB_tree HBG.out).2)
      have HXT2 := Lib.hid (show (toTr x).size ≤ 2000000 by have := HXT.out; omega)
      have HCZ := Lib.hid (show (codeT (knowL q)).size ≤ 1900000 by
        rw [codeT_size HKF.out.2.2.1]
        exact tknow_code hgp.2.2 (by omega) (by omega))
      clear hgp
      go_wp2_with fail
      refine (ttwin_any _ q (by have := hlen.out; omega) _ hq0.out).mono ?_
      rintro e w3 ⟨t1a, t1c, rfl, hT1, hq⟩
      have hX := Lib.hid (hX.out.kept (Kept.below hq))
      have hq0 := Lib.hid ((hq0.out.below hq).mono hq.size)
      have ch := Lib.hid (ch.out.trans (hq.mono ch.out.size))
      clear hq
      have hT1 := Lib.hid (hT1.row (by have := hlen.out; omega))
      go_wp2_with fail
      refine (tknow_ok hT1.out HK.out).mono ?_
      rintro e w4 ⟨ve, rfl, hE, hq⟩
      have hX := Lib.hid (hX.out.kept (Kept.below hq))
      have hq0 := Lib.hid ((hq0.out.below hq).mono hq.size)
      have hT1 := Lib.hid ((hT1.out.below hq).mono hq.size)
      have ch := Lib.hid (ch.out.trans (hq.mono ch.out.size))
      clear hq
      have hE := Lib.hid hE
      clear hT1
      go_wp2_with fail
      refine (twhole_any _ _ true HKF.out.2.2.1 _ hE.out).mono ?_
      rintro e w5 ⟨rfl, hq⟩
      have hX := Lib.hid (hX.out.kept (Kept.below hq))
      have hq0 := Lib.hid ((hq0.out.below hq).mono hq.size)
      have hE := Lib.hid ((hE.out.below hq).mono hq.size)
      have ch := Lib.hid (ch.out.trans (hq.mono ch.out.size))
      clear hq
      go_wp2_with fail
      refine (tcode_any _ _ _ hE.out HKF.out.2.2.1 HKF.out.2.2.2).mono ?_
      rintro e w6 ⟨cq, rfl, hC, hq⟩
      have hX := Lib.hid (hX.out.kept (Kept.below hq))
      have hq0 := Lib.hid ((hq0.out.below hq).mono hq.size)
      have hE := Lib.hid ((hE.out.below hq).mono hq.size)
      have ch := Lib.hid (ch.out.trans (hq.mono ch.out.size))
      clear hq
      have hC := Lib.hid hC
      go_wp2_with fail
      refine (tpair_ok _ _ _ _ _ hC.out hX.out (by have := HCZ.out; omega) (by have := HXT.out; omega)).mono ?_
      rintro e w7 ⟨pq, rfl, hP, hq⟩
      have hX := Lib.hid (hX.out.kept (Kept.below hq))
      have hC := Lib.hid (hC.out.kept (Kept.below hq))
      have hq0 := Lib.hid ((hq0.out.below hq).mono hq.size)
      have hE := Lib.hid ((hE.out.below hq).mono hq.size)
      have ch := Lib.hid (ch.out.trans (hq.mono ch.out.size))
      clear hq
      have hP := Lib.hid hP
      have HPZ := Lib.hid (show (Tr.pair (codeT (knowL q)) (toTr x)).size ≤ 2000000 by have h1 := HCZ.out; have h2 := HXT.out; simp only [Tr.size]; omega)
      have hfol := Lib.hid (know_follow HK.out (toTr x) HPZ.out)
      cases hg : goF q 500 0 (startS (.pair (codeT (knowL q)) (toTr x))) with
      | fuel s m =>
        have HG := Lib.hid hg
        have hnd := Lib.hid (show NotD (knowL q) (startS (toTr x)) 519 from fun s2 m2 e2 => by
          rcases hfol.out 500 with ⟨s3, s4, m3, f1, _⟩ | ⟨s3, f1, ⟨s4, f2⟩ | f2⟩ | ⟨f1, _⟩
          · rw [hg] at f1; cases f1
          · rw [f2] at e2; cases e2
          · rw [f2] at e2; cases e2
          · rw [hg] at f1; cases f1)
        clear hg
        go_wp2_with fail
        refine (tplay_fuel 500 _ (by omega) (by omega) HG.out hq0.out VQ.out hP.out HPZ.out).mono ?_
        rintro e w8 ⟨yq, yk, rfl, hq⟩
        have hX := Lib.hid (hX.out.kept (Kept.below hq))
        have hC := Lib.hid (hC.out.kept (Kept.below hq))
        have hP := Lib.hid (hP.out.kept (Kept.below hq))
        have hq0 := Lib.hid ((hq0.out.below hq).mono hq.size)
        have hE := Lib.hid ((hE.out.below hq).mono hq.size)
        have ch := Lib.hid (ch.out.trans (hq.mono ch.out.size))
        clear hq
        go_wp2_with fail
        refine (tlasts_ok 519 _ (by omega) (by omega) hE.out HKF.out.2.2.1 hX.out HXT2.out hnd.out).mono ?_
        rintro e w9 ⟨rfl, hq⟩
        have hX := Lib.hid (hX.out.kept (Kept.below hq))
        have hC := Lib.hid (hC.out.kept (Kept.below hq))
        have hP := Lib.hid (hP.out.kept (Kept.below hq))
        have hq0 := Lib.hid ((hq0.out.below hq).mono hq.size)
        have hE := Lib.hid ((hE.out.below hq).mono hq.size)
        have ch := Lib.hid (ch.out.trans (hq.mono ch.out.size))
        clear hq
        go_wp2_with fail
        refine (knows_any _).mono ?_
        rintro e wz ⟨rfl, hqz⟩
        go_wp2
        go_ret
        exact ⟨rfl, ch.out.trans (hqz.mono ch.out.size)⟩
      | big =>
        have HG := Lib.hid hg
        clear hg
        go_wp2_with fail
        refine (tplay_big 500 _ (by omega) (by omega) HG.out hq0.out VQ.out hP.out HPZ.out).mono ?_
        rintro e w8 ⟨yq, yk, rfl, hq⟩
        have hX := Lib.hid (hX.out.kept (Kept.below hq))
        have hC := Lib.hid (hC.out.kept (Kept.below hq))
        have hP := Lib.hid (hP.out.kept (Kept.below hq))
        have hq0 := Lib.hid ((hq0.out.below hq).mono hq.size)
        have hE := Lib.hid ((hE.out.below hq).mono hq.size)
        have ch := Lib.hid (ch.out.trans (hq.mono ch.out.size))
        clear hq
        go_wp2_with fail
        refine (knows_any _).mono ?_
        rintro e wz ⟨rfl, hqz⟩
        go_wp2
        go_ret
        exact ⟨rfl, ch.out.trans (hqz.mono ch.out.size)⟩
      | done s m =>
        have hm0 := goF_steps hg
        have hmI : (m : Int) ≤ 500 := by omega
        have HG := Lib.hid hg
        have hex := Lib.hid (show ∃ s2, goF (knowL q) (m + 19) 0 (startS (toTr x)) = .done s2 (m + 19) ∧ getR s2.regs 0 = getR s.regs 0 from by
          rcases hfol.out 500 with ⟨s3, s4, m3, f1, _, f2, f3⟩ | ⟨s3, f1, _⟩ | ⟨f1, _⟩
          · rw [hg] at f1
            injection f1 with f4 f5
            subst f4; subst f5
            exact ⟨s4, goF_exact f2, f3⟩
          · rw [hg] at f1; cases f1
          · rw [hg] at f1; cases f1)
        clear hg hm0
        go_wp2_with fail
        refine (tplay_done 500 _ (by omega) (by omega) HG.out hq0.out VQ.out hP.out HPZ.out).mono ?_
        rintro e w8 ⟨yq, rfl, hY, hq⟩
        have hX := Lib.hid (hX.out.kept (Kept.below hq))
        have hC := Lib.hid (hC.out.kept (Kept.below hq))
        have hP := Lib.hid (hP.out.kept (Kept.below hq))
        have hq0 := Lib.hid ((hq0.out.below hq).mono hq.size)
        have hE := Lib.hid ((hE.out.below hq).mono hq.size)
        have ch := Lib.hid (ch.out.trans (hq.mono ch.out.size))
        clear hq
        have hY := Lib.hid hY
        go_wp2_with fail
        refine (treturns_ok (m + 19) _ (by omega) (by omega) hE.out HKF.out.2.2.1 hX.out hY.out HXT2.out hex.out).mono ?_
        rintro e w9 ⟨rfl, hq⟩
        have hX := Lib.hid (hX.out.kept (Kept.below hq))
        have hC := Lib.hid (hC.out.kept (Kept.below hq))
        have hP := Lib.hid (hP.out.kept (Kept.below hq))
        have hY := Lib.hid (hY.out.kept (Kept.below hq))
        have hq0 := Lib.hid ((hq0.out.below hq).mono hq.size)
        have hE := Lib.hid ((hE.out.below hq).mono hq.size)
        have ch := Lib.hid (ch.out.trans (hq.mono ch.out.size))
        clear hq
        go_wp2_with fail
        refine (knows_any _).mono ?_
        rintro e wz ⟨rfl, hqz⟩
        go_wp2
        go_ret
        exact ⟨rfl, ch.out.trans (hqz.mono ch.out.size)⟩
end Go.Proofs.Ytdjbcmfjlfkcjaa


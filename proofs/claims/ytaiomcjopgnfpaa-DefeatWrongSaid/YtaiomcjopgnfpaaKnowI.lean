/- law07: KnowItself, KnowRuns. -/
import Derived.Test.YtaiomcjopgnfpaaFollow7
import Derived.Test.YtaiomcjopgnfpaaKnowD
namespace Go.Proofs.Ytaiomcjopgnfpaa
open Go.RowKit

theorem str_tree (x : ByteArray) (h : isTree x = true) : TS (toTr x) = x ∧ (toTr x).size ≤ 2000000 := by obtain ⟨t, rfl, ht⟩ := isTree_get h; rw [toTr_TS t ht]; exact ⟨rfl, ht⟩
theorem read_str (x : ByteArray) (h : isTree x = true) (w : World) :
    Calls Try.prog 50 #[.string x] w fun e w' => ∃ p, e = .returned (.pointer p) ∧ NodeP 69 w' (toTr x) (.pointer p) ∧ Below w.heap.size w w' := by
  have h1 := str_tree x h
  have := read_ok (toTr x) h1.2 w
  rw [h1.1] at this
  exact this
theorem selfN : codeN (knowL [headI]) ≤ 10000 := by decide +kernel
set_option maxRecDepth 20000 in
set_option maxHeartbeats 8000000 in
theorem law_KnowItself (x : ByteArray) (hxs : x.size ≤ 140737488355328) (w : World) :
    Calls Try.prog 12 #[.string x] w fun e w' => e = .returned (.bool true) ∧ Below w.heap.size w w' := by
  obtain ⟨bx, hbx⟩ : ∃ b, isTree x = b := ⟨_, rfl⟩
  have HX := Lib.hid hbx
  have hxI : (x.size : Int) ≤ 140737488355328 := by omega
  have HXS := Lib.hid hxs
  have ch := Lib.hid (Below.refl w.heap.size w)
  clear hbx hxs
  by_cases hlen : (x.size : Int) ≤ 1000000
  · skip
    go_enter Try.func12, Try.ntmps12
    go_wp2_with fail
    refine (tvalid_at x HXS.out bx HX.out _).mono ?_
    rintro e w1 ⟨rfl, hq⟩
    have ch := Lib.hid (ch.out.trans (hq.mono ch.out.size))
    clear hq
    cases bx with
    | false =>
      go_wp2_with fail
      refine (awake7_any _).mono ?_
      rintro e wz ⟨rfl, hqz⟩
      go_wp2
      go_ret
      exact ⟨rfl, ch.out.trans (hqz.mono ch.out.size)⟩
    | true =>
      have HLE := Lib.hid (show x.size ≤ 1000000 by omega)
      have hKE := Lib.hid (knowE_facts knowE_head)
      obtain ⟨s, hs1, hs2⟩ := self_run (toTr x) (by have := (str_tree x HX.out).2; have h1 := selfN; rw [← codeT_size hKE.out.2.2.1] at h1; have h3 := (str_tree x HX.out).1; have h4 := HLE.out; rw [← h3, TS_size] at h4; simp only [Tr.size]; omega)
      have HS1 := Lib.hid hs1
      have HS2 := Lib.hid hs2
      clear hs1 hs2
      go_wp2_with fail
      refine (self7_any _).mono ?_
      rintro e w2 ⟨vp, rfl, hP, hq⟩
      have ch := Lib.hid (ch.out.trans (hq.mono ch.out.size))
      clear hq
      have hP := Lib.hid (show InsRow _ _ _ (knowL [headI]) from by have := (hP.row (by have := knowD_len [headI]; omega)); rw [knowD_head] at this; exact this)
      go_wp2_with fail
      refine (coded7_any _ _ _ hP.out hKE.out.2.2.1 hKE.out.2.2.2).mono ?_
      rintro e w3 ⟨cq, rfl, hC, hq⟩
      have hP := Lib.hid ((hP.out.below hq).mono hq.size)
      have ch := Lib.hid (ch.out.trans (hq.mono ch.out.size))
      clear hq
      have hC := Lib.hid hC
      go_wp2_with fail
      refine (load_any _ _ _ hP.out hKE.out.2.2.1).mono ?_
      rintro e w4 ⟨gm, tm, rfl, hM, hq⟩
      have hC := Lib.hid (hC.out.kept (Kept.below hq))
      have hP := Lib.hid ((hP.out.below hq).mono hq.size)
      have ch := Lib.hid (ch.out.trans (hq.mono ch.out.size))
      clear hq
      have hM := Lib.hid hM
      go_wp2_with fail
      refine (read_str x HX.out _).mono ?_
      rintro e w5 ⟨xq, rfl, hN, hq⟩
      have hC := Lib.hid (hC.out.kept (Kept.below hq))
      have hM := Lib.hid (mach_lift hM.out hq)
      have hP := Lib.hid ((hP.out.below hq).mono hq.size)
      have ch := Lib.hid (ch.out.trans (hq.mono ch.out.size))
      clear hq
      have hN := Lib.hid hN
      go_wp2_with fail
      refine (rrun_done 100 _ (by omega) (by omega) HS1.out hM.out hN.out (str_tree x HX.out).2 hKE.out.2.2.1).mono ?_
      rintro e w6 ⟨rq, rfl, hR, hq⟩
      have hC := Lib.hid (hC.out.kept (Kept.below hq))
      have hN := Lib.hid (hN.out.kept (Kept.below hq))
      have hM := Lib.hid (mach_lift hM.out hq)
      have hP := Lib.hid ((hP.out.below hq).mono hq.size)
      have ch := Lib.hid (ch.out.trans (hq.mono ch.out.size))
      clear hq
      have hR := Lib.hid hR
      have hR := Lib.hid (show NodeP 69 _ (codeT (knowL [headI])) _ by rw [← HS2.out]; exact hR.out)
      go_wp2_with fail
      refine (equal_self _ _ _ _ hR.out hC.out (by rw [codeT_size hKE.out.2.2.1]; have := hKE.out.2.2.2; omega)).mono ?_
      rintro e w7 ⟨rfl, hq⟩
      have hC := Lib.hid (hC.out.kept (Kept.below hq))
      have hN := Lib.hid (hN.out.kept (Kept.below hq))
      have hR := Lib.hid (hR.out.kept (Kept.below hq))
      have hM := Lib.hid (mach_lift hM.out hq)
      have hP := Lib.hid ((hP.out.below hq).mono hq.size)
      have ch := Lib.hid (ch.out.trans (hq.mono ch.out.size))
      clear hq
      go_wp2_with fail
      refine (awake7_any _).mono ?_
      rintro e wz ⟨rfl, hqz⟩
      go_wp2
      go_ret
      exact ⟨rfl, ch.out.trans (hqz.mono ch.out.size)⟩
  · skip
    go_enter Try.func12, Try.ntmps12
    go_wp2_with fail
    refine (awake7_any _).mono ?_
    rintro e wz ⟨rfl, hqz⟩
    go_wp2
    go_ret
    exact ⟨rfl, ch.out.trans (hqz.mono ch.out.size)⟩
set_option maxRecDepth 20000 in
set_option maxHeartbeats 8000000 in
theorem law_KnowRuns {w : World} (vq : Value) (q : List Ins) (hhQ : InsRow w w.heap.size vq q) (x : ByteArray) (hxs : x.size ≤ 140737488355328) :
    Calls Try.prog 9 #[vq, .string x] w fun e w' => e = .returned (.bool true) ∧ Below w.heap.size w w' := by
  obtain ⟨qa, qc, rfl⟩ := hhQ.len
  obtain ⟨qn, hqn⟩ : ∃ n, q.length = n := ⟨_, rfl⟩
  rw [hqn] at hhQ ⊢
  have hQ := Lib.hid hhQ
  obtain ⟨bx, hbx⟩ : ∃ b, isTree x = b := ⟨_, rfl⟩
  have HX := Lib.hid hbx
  obtain ⟨bv, hbv⟩ : ∃ b, validB q = b := ⟨_, rfl⟩
  have HV := Lib.hid hbv
  obtain ⟨en, hen⟩ : ∃ e, knowE q = e := ⟨_, rfl⟩
  have HE := Lib.hid hen
  have hxI : (x.size : Int) ≤ 140737488355328 := by omega
  have HXS := Lib.hid hxs
  clear hhQ hqn hbx hbv hen hxs
  have ch := Lib.hid (Below.refl w.heap.size w)
  go_enter Try.func9, Try.ntmps9
  go_wp2_with fail
  have hL0 := ProgsRow.lit (w := w) [.slice qa qn qc] [q] rfl (by simp) (fun j u l hu hl => match j, u, l, hu, hl with | 0, _, _, hu, hl => by cases hu; cases hl; exact hQ.out)
  obtain ⟨w1, hW⟩ : ∃ B, w.alloc (.cells #[.slice qa qn qc] 25) = B := ⟨_, rfl⟩
  rw [hW]
  have hq : Below w.heap.size w w1 := by rw [← hW]; exact (Below.refl _ _).alloc (Nat.le_refl _) _
  have hL := Lib.hid (show ProgsRow w1 w1.heap.size (.slice (some ⟨w.heap.size, 0, none⟩) 1 1) [q] by rw [← hW]; exact hL0)
  clear hW hL0
  have hQ := Lib.hid ((hQ.out.below hq).mono hq.size)
  have ch := Lib.hid (ch.out.trans (hq.mono ch.out.size))
  clear hq
  refine (small_one _ _ q _ hL.out).mono ?_
  rintro e w2 ⟨b1, rfl, hq⟩
  have hQ := Lib.hid ((hQ.out.below hq).mono hq.size)
  have hL := Lib.hid ((hL.out.below hq).mono hq.size)
  have ch := Lib.hid (ch.out.trans (hq.mono ch.out.size))
  clear hq
  clear hL
  cases b1 with
  | false =>
    go_wp2_with fail
    refine (awake7_any _).mono ?_
    rintro e wz ⟨rfl, hqz⟩
    go_wp2
    go_ret
    exact ⟨rfl, ch.out.trans (hqz.mono ch.out.size)⟩
  | true =>
    by_cases hlen : (x.size : Int) ≤ 20000
    rotate_left
    · skip
      go_wp2_with fail
      refine (awake7_any _).mono ?_
      rintro e wz ⟨rfl, hqz⟩
      go_wp2
      go_ret
      exact ⟨rfl, ch.out.trans (hqz.mono ch.out.size)⟩
    have HLE := Lib.hid (show x.size ≤ 20000 by omega)
    go_wp2_with fail
    refine (cvalid_at bv HV.out hQ.out).mono ?_
    rintro e w3 ⟨rfl, hq⟩
    have hQ := Lib.hid ((hQ.out.below hq).mono hq.size)
    have ch := Lib.hid (ch.out.trans (hq.mono ch.out.size))
    clear hq
    cases bv with
    | false =>
      go_wp2_with fail
      refine (awake7_any _).mono ?_
      rintro e wz ⟨rfl, hqz⟩
      go_wp2
      go_ret
      exact ⟨rfl, ch.out.trans (hqz.mono ch.out.size)⟩
    | true =>
      go_wp2_with fail
      refine (tvalid_at x HXS.out bx HX.out _).mono ?_
      rintro e w4 ⟨rfl, hq⟩
      have hQ := Lib.hid ((hQ.out.below hq).mono hq.size)
      have ch := Lib.hid (ch.out.trans (hq.mono ch.out.size))
      clear hq
      cases bx with
      | false =>
        go_wp2_with fail
        refine (awake7_any _).mono ?_
        rintro e wz ⟨rfl, hqz⟩
        go_wp2
        go_ret
        exact ⟨rfl, ch.out.trans (hqz.mono ch.out.size)⟩
      | true =>
        go_wp2_with fail
        refine (know_e en _ q _ hQ.out HE.out).mono ?_
        rintro e w5 ⟨vp, rfl, hTB, hq⟩
        have hQ := Lib.hid ((hQ.out.below hq).mono hq.size)
        have ch := Lib.hid (ch.out.trans (hq.mono ch.out.size))
        clear hq
        have hTB := Lib.hid hTB
        by_cases h0 : en = 0
        rotate_left
        · have h3 : en = 3 := by rw [← HE.out]; exact knowE_ne HV.out (by rw [HE.out]; exact h0)
          subst h3
          go_wp2_with fail
          refine (awake7_any _).mono ?_
          rintro e wz ⟨rfl, hqz⟩
          go_wp2
          go_ret
          exact ⟨rfl, ch.out.trans (hqz.mono ch.out.size)⟩
        subst h0
        have hP := Lib.hid (hTB.out.1 rfl)
        have hK := Lib.hid (knowE_facts HE.out)
        clear hTB
        have hin := Lib.hid (str_tree x HX.out)
        have hsC := Lib.hid (codeT_size hK.out.2.2.1)
        go_wp2_with fail
        refine (coded7_any _ _ _ hP.out hK.out.2.2.1 hK.out.2.2.2).mono ?_
        rintro e w6 ⟨cq, rfl, hC, hq⟩
        have hQ := Lib.hid ((hQ.out.below hq).mono hq.size)
        have hP := Lib.hid ((hP.out.below hq).mono hq.size)
        have ch := Lib.hid (ch.out.trans (hq.mono ch.out.size))
        clear hq
        have hC := Lib.hid hC
        go_wp2_with fail
        refine (read_str x HX.out _).mono ?_
        rintro e w7 ⟨xq, rfl, hN, hq⟩
        have hC := Lib.hid (hC.out.kept (Kept.below hq))
        have hQ := Lib.hid ((hQ.out.below hq).mono hq.size)
        have hP := Lib.hid ((hP.out.below hq).mono hq.size)
        have ch := Lib.hid (ch.out.trans (hq.mono ch.out.size))
        clear hq
        have hN := Lib.hid hN
        go_wp2_with fail
        refine (rnodeCons_ok _ _ _ _ _ hC.out hN.out (by have := hsC.out; have := hK.out.2.2.2; omega) (by have := hin.out.2; omega)).mono ?_
        rintro e w8 ⟨pq, rfl, hPr, hq⟩
        have hC := Lib.hid (hC.out.kept (Kept.below hq))
        have hN := Lib.hid (hN.out.kept (Kept.below hq))
        have hQ := Lib.hid ((hQ.out.below hq).mono hq.size)
        have hP := Lib.hid ((hP.out.below hq).mono hq.size)
        have ch := Lib.hid (ch.out.trans (hq.mono ch.out.size))
        clear hq
        obtain ⟨pg, px, py, hpe, hpg, c0, c1, c2, -, -⟩ := hPr.cells
        injection hpe with hpe
        injection hpe with hpe
        subst hpe
        obtain ⟨pz, hpz⟩ : ∃ z, (Tr.pair (codeT (knowL q)) (toTr x)).size = z := ⟨_, rfl⟩
        rw [hpz] at c2
        have HPZ := Lib.hid hpz
        clear hpz hpg c0 c1
        have hPr := Lib.hid hPr
        by_cases hbig : (pz : Int) ≤ 2000000
        rotate_left
        · skip
          go_wp2_with fail
          refine (awake7_any _).mono ?_
          rintro e wz ⟨rfl, hqz⟩
          go_wp2
          go_ret
          exact ⟨rfl, ch.out.trans (hqz.mono ch.out.size)⟩
        have hsz := Lib.hid (show (Tr.pair (codeT (knowL q)) (toTr x)).size ≤ 2000000 by rw [HPZ.out]; omega)
        go_wp2_with fail
        refine (follows_any _ _ _ _ _ _ _ _ 19 (by omega) _ hP.out hQ.out hK.out.2.2.1 hK.out.1 hN.out hPr.out (by have := hin.out.2; omega) hsz.out (know_follow HE.out (toTr x) hsz.out)).mono ?_
        rintro e w9 ⟨rfl, hq⟩
        have hC := Lib.hid (hC.out.kept (Kept.below hq))
        have hN := Lib.hid (hN.out.kept (Kept.below hq))
        have hPr := Lib.hid (hPr.out.kept (Kept.below hq))
        have hQ := Lib.hid ((hQ.out.below hq).mono hq.size)
        have hP := Lib.hid ((hP.out.below hq).mono hq.size)
        have ch := Lib.hid (ch.out.trans (hq.mono ch.out.size))
        clear hq
        go_wp2_with fail
        refine (awake7_any _).mono ?_
        rintro e wz ⟨rfl, hqz⟩
        go_wp2
        go_ret
        exact ⟨rfl, ch.out.trans (hqz.mono ch.out.size)⟩
end Go.Proofs.Ytaiomcjopgnfpaa


/- law09: DefeatSays, DefeatWrong. -/
import Derived.Test.YtaiomcjopgnfpaaDef7
namespace Go.Proofs.Ytaiomcjopgnfpaa
open Go.RowKit

theorem goF_done_more {l : List Ins} {K F m : Nat} {s0 s : St} (h : goF l K 0 s0 = .done s m) (hF : K ≤ F) : goF l F 0 s0 = .done s m := by
  rcases goF_how l K 0 s0 with ⟨s', m', h1, h2, h3, h4⟩ | ⟨s', h1, _⟩ | ⟨s', m', h1, _⟩
  · rw [h, Nat.zero_add] at h1
    injection h1 with e1 e2
    subst e1; subst e2
    exact h3.done h4 F (by omega)
  · rw [h] at h1; cases h1
  · rw [h] at h1; cases h1
theorem goF_big_more {l : List Ins} {K F : Nat} {s0 : St} (h : goF l K 0 s0 = .big) (hF : K ≤ F) : goF l F 0 s0 = .big := by
  rcases goF_how l K 0 s0 with ⟨s', m', h1, h2, h3, h4⟩ | ⟨s', h1, _⟩ | ⟨s', m', h1, h2, h3, h4, h5⟩
  · rw [h] at h1; cases h1
  · rw [h] at h1; cases h1
  · exact h3.big h4 h5 F (by omega)
theorem follow_done {P Q : List Ins} {t u : Tr} {c F0 m : Nat} {s : St} (hf : FollowP P t Q u c) (hq : goF Q F0 0 (startS u) = .done s m) (F : Nat) (hF : F0 ≤ F) : ∃ s', goF P (F + c) 0 (startS t) = .done s' (m + c) ∧ getR s'.regs 0 = getR s.regs 0 := by
  have hq2 := goF_done_more hq hF
  rcases hf F with ⟨s1, s', m1, e1, e2, e3, e4⟩ | ⟨s1, e1, _⟩ | ⟨e1, _⟩
  · rw [hq2] at e1
    injection e1 with e5 e6
    subst e5; subst e6
    exact ⟨s', e3, e4⟩
  · rw [hq2] at e1; cases e1
  · rw [hq2] at e1; cases e1
set_option maxRecDepth 20000 in
set_option maxHeartbeats 16000000 in
theorem law_DefeatSays {w : World} (vd : Value) (d : List Ins) (hhd : InsRow w w.heap.size vd d) (vh : Value) (h : List Ins) (hhh : InsRow w w.heap.size vh h) (fuel : Int) (_ : i64 fuel) :
    Calls Try.prog 17 #[vd, vh, .int .i64 fuel] w fun e w' => e = .returned (.bool true) ∧ Below w.heap.size w w' := by
  obtain ⟨da, dc, rfl⟩ := hhd.len
  obtain ⟨dn, hdn⟩ : ∃ lz, d.length = lz := ⟨_, rfl⟩
  rw [hdn] at hhd ⊢
  have hd := Lib.hid hhd
  clear hhd hdn
  obtain ⟨ha, hc, rfl⟩ := hhh.len
  obtain ⟨hn, hhn⟩ : ∃ lz, h.length = lz := ⟨_, rfl⟩
  rw [hhn] at hhh ⊢
  have hh := Lib.hid hhh
  clear hhh hhn
  obtain ⟨bd, hbd⟩ : ∃ b, validB d = b := ⟨_, rfl⟩
  have Vd := Lib.hid hbd
  obtain ⟨bh, hbh⟩ : ∃ b, validB h = b := ⟨_, rfl⟩
  have Vh := Lib.hid hbh
  clear hbd hbh
  have ch := Lib.hid (Below.refl w.heap.size w)
  go_enter Try.func17, Try.ntmps17
  go_wp2_with fail
  have hL0 := ProgsRow.lit (w := w) [.slice da dn dc, .slice ha hn hc] [d, h] rfl (by simp) (fun j u l hu hl => match j, u, l, hu, hl with | 0, _, _, hu, hl => by cases hu; cases hl; exact hd.out | 1, _, _, hu, hl => by cases hu; cases hl; exact hh.out)
  obtain ⟨w1, hW⟩ : ∃ B, w.alloc (.cells #[.slice da dn dc, .slice ha hn hc] 25) = B := ⟨_, rfl⟩
  rw [hW]
  have hq : Below w.heap.size w w1 := by rw [← hW]; exact (Below.refl _ _).alloc (Nat.le_refl _) _
  have hL := Lib.hid (show ProgsRow w1 w1.heap.size (.slice (some ⟨w.heap.size, 0, none⟩) 2 2) [d, h] by rw [← hW]; exact hL0)
  clear hW hL0
  have hd := Lib.hid ((hd.out.below hq).mono hq.size)
  have hh := Lib.hid ((hh.out.below hq).mono hq.size)
  have ch := Lib.hid (ch.out.trans (hq.mono ch.out.size))
  clear hq
  refine (small_any _ _ _ (by simp) _ hL.out).mono ?_
  rintro e w2 ⟨b1, rfl, hq⟩
  have hd := Lib.hid ((hd.out.below hq).mono hq.size)
  have hh := Lib.hid ((hh.out.below hq).mono hq.size)
  have hL := Lib.hid ((hL.out.below hq).mono hq.size)
  have ch := Lib.hid (ch.out.trans (hq.mono ch.out.size))
  clear hq
  clear hL
  cases b1 with
  | false =>
    go_wp2_with fail
    refine (awake9_any _).mono ?_
    rintro e wz ⟨rfl, hqz⟩
    go_wp2
    go_ret
    exact ⟨rfl, ch.out.trans (hqz.mono ch.out.size)⟩
  | true =>
    go_wp2_with fail
    refine (twin_any _ d _ hd.out).mono ?_
    rintro e w3 ⟨td, rfl, gd, hq⟩
    have hd := Lib.hid ((hd.out.below hq).mono hq.size)
    have hh := Lib.hid ((hh.out.below hq).mono hq.size)
    have ch := Lib.hid (ch.out.trans (hq.mono ch.out.size))
    clear hq
    have gd := Lib.hid gd
    go_wp2_with fail
    refine (twin_any _ h _ hh.out).mono ?_
    rintro e w4 ⟨th, rfl, gh, hq⟩
    have hd := Lib.hid ((hd.out.below hq).mono hq.size)
    have hh := Lib.hid ((hh.out.below hq).mono hq.size)
    have gd := Lib.hid ((gd.out.below hq).mono hq.size)
    have ch := Lib.hid (ch.out.trans (hq.mono ch.out.size))
    clear hq
    have gh := Lib.hid gh
    go_wp2_with fail
    refine (cvalid_at bd Vd.out gd.out).mono ?_
    rintro e w5 ⟨rfl, hq⟩
    have hd := Lib.hid ((hd.out.below hq).mono hq.size)
    have hh := Lib.hid ((hh.out.below hq).mono hq.size)
    have gd := Lib.hid ((gd.out.below hq).mono hq.size)
    have gh := Lib.hid ((gh.out.below hq).mono hq.size)
    have ch := Lib.hid (ch.out.trans (hq.mono ch.out.size))
    clear hq
    cases bd with
    | false =>
      go_wp2_with fail
      refine (says_form _ _ d h fuel hd.out hh.out (fun c => by rw [Vd.out] at c; exact Bool.false_ne_true c.1)).mono ?_
      rintro e w6 ⟨rfl, hq⟩
      have hd := Lib.hid ((hd.out.below hq).mono hq.size)
      have hh := Lib.hid ((hh.out.below hq).mono hq.size)
      have gd := Lib.hid ((gd.out.below hq).mono hq.size)
      have gh := Lib.hid ((gh.out.below hq).mono hq.size)
      have ch := Lib.hid (ch.out.trans (hq.mono ch.out.size))
      clear hq
      go_wp2_with fail
      refine (same_self hd.out gd.out).mono ?_
      rintro e w7 ⟨rfl, hq⟩
      have hd := Lib.hid ((hd.out.below hq).mono hq.size)
      have hh := Lib.hid ((hh.out.below hq).mono hq.size)
      have gd := Lib.hid ((gd.out.below hq).mono hq.size)
      have gh := Lib.hid ((gh.out.below hq).mono hq.size)
      have ch := Lib.hid (ch.out.trans (hq.mono ch.out.size))
      clear hq
      go_wp2_with fail
      refine (same_self hh.out gh.out).mono ?_
      rintro e w8 ⟨rfl, hq⟩
      have hd := Lib.hid ((hd.out.below hq).mono hq.size)
      have hh := Lib.hid ((hh.out.below hq).mono hq.size)
      have gd := Lib.hid ((gd.out.below hq).mono hq.size)
      have gh := Lib.hid ((gh.out.below hq).mono hq.size)
      have ch := Lib.hid (ch.out.trans (hq.mono ch.out.size))
      clear hq
      go_wp2_with fail
      refine (awake9_any _).mono ?_
      rintro e wz ⟨rfl, hqz⟩
      go_wp2
      go_ret
      exact ⟨rfl, ch.out.trans (hqz.mono ch.out.size)⟩
    | true =>
      go_wp2_with fail
      refine (cvalid_at bh Vh.out gh.out).mono ?_
      rintro e w6 ⟨rfl, hq⟩
      have hd := Lib.hid ((hd.out.below hq).mono hq.size)
      have hh := Lib.hid ((hh.out.below hq).mono hq.size)
      have gd := Lib.hid ((gd.out.below hq).mono hq.size)
      have gh := Lib.hid ((gh.out.below hq).mono hq.size)
      have ch := Lib.hid (ch.out.trans (hq.mono ch.out.size))
      clear hq
      cases bh with
      | false =>
        go_wp2_with fail
        refine (says_form _ _ d h fuel hd.out hh.out (fun c => by rw [Vh.out] at c; exact Bool.false_ne_true c.2)).mono ?_
        rintro e w7 ⟨rfl, hq⟩
        have hd := Lib.hid ((hd.out.below hq).mono hq.size)
        have hh := Lib.hid ((hh.out.below hq).mono hq.size)
        have gd := Lib.hid ((gd.out.below hq).mono hq.size)
        have gh := Lib.hid ((gh.out.below hq).mono hq.size)
        have ch := Lib.hid (ch.out.trans (hq.mono ch.out.size))
        clear hq
        go_wp2_with fail
        refine (same_self hd.out gd.out).mono ?_
        rintro e w8 ⟨rfl, hq⟩
        have hd := Lib.hid ((hd.out.below hq).mono hq.size)
        have hh := Lib.hid ((hh.out.below hq).mono hq.size)
        have gd := Lib.hid ((gd.out.below hq).mono hq.size)
        have gh := Lib.hid ((gh.out.below hq).mono hq.size)
        have ch := Lib.hid (ch.out.trans (hq.mono ch.out.size))
        clear hq
        go_wp2_with fail
        refine (same_self hh.out gh.out).mono ?_
        rintro e w9 ⟨rfl, hq⟩
        have hd := Lib.hid ((hd.out.below hq).mono hq.size)
        have hh := Lib.hid ((hh.out.below hq).mono hq.size)
        have gd := Lib.hid ((gd.out.below hq).mono hq.size)
        have gh := Lib.hid ((gh.out.below hq).mono hq.size)
        have ch := Lib.hid (ch.out.trans (hq.mono ch.out.size))
        clear hq
        go_wp2_with fail
        refine (awake9_any _).mono ?_
        rintro e wz ⟨rfl, hqz⟩
        go_wp2
        go_ret
        exact ⟨rfl, ch.out.trans (hqz.mono ch.out.size)⟩
      | true =>
        by_cases hout : fuel < 0 ∨ 10000000 < fuel
        ·
          have HO := Lib.hid hout
          rcases hout with hf | hf
          ·
            go_wp2_with fail
            refine (says_arg _ _ d h fuel hd.out hh.out Vd.out Vh.out HO.out).mono ?_
            rintro e w7 ⟨rfl, hq⟩
            have hd := Lib.hid ((hd.out.below hq).mono hq.size)
            have hh := Lib.hid ((hh.out.below hq).mono hq.size)
            have gd := Lib.hid ((gd.out.below hq).mono hq.size)
            have gh := Lib.hid ((gh.out.below hq).mono hq.size)
            have ch := Lib.hid (ch.out.trans (hq.mono ch.out.size))
            clear hq
            go_wp2_with fail
            refine (same_self hd.out gd.out).mono ?_
            rintro e w8 ⟨rfl, hq⟩
            have hd := Lib.hid ((hd.out.below hq).mono hq.size)
            have hh := Lib.hid ((hh.out.below hq).mono hq.size)
            have gd := Lib.hid ((gd.out.below hq).mono hq.size)
            have gh := Lib.hid ((gh.out.below hq).mono hq.size)
            have ch := Lib.hid (ch.out.trans (hq.mono ch.out.size))
            clear hq
            go_wp2_with fail
            refine (same_self hh.out gh.out).mono ?_
            rintro e w9 ⟨rfl, hq⟩
            have hd := Lib.hid ((hd.out.below hq).mono hq.size)
            have hh := Lib.hid ((hh.out.below hq).mono hq.size)
            have gd := Lib.hid ((gd.out.below hq).mono hq.size)
            have gh := Lib.hid ((gh.out.below hq).mono hq.size)
            have ch := Lib.hid (ch.out.trans (hq.mono ch.out.size))
            clear hq
            go_wp2_with fail
            refine (awake9_any _).mono ?_
            rintro e wz ⟨rfl, hqz⟩
            go_wp2
            go_ret
            exact ⟨rfl, ch.out.trans (hqz.mono ch.out.size)⟩
          ·
            have hf0 : ¬ fuel < 0 := by omega
            go_wp2_with fail
            refine (says_arg _ _ d h fuel hd.out hh.out Vd.out Vh.out HO.out).mono ?_
            rintro e w7 ⟨rfl, hq⟩
            have hd := Lib.hid ((hd.out.below hq).mono hq.size)
            have hh := Lib.hid ((hh.out.below hq).mono hq.size)
            have gd := Lib.hid ((gd.out.below hq).mono hq.size)
            have gh := Lib.hid ((gh.out.below hq).mono hq.size)
            have ch := Lib.hid (ch.out.trans (hq.mono ch.out.size))
            clear hq
            go_wp2_with fail
            refine (same_self hd.out gd.out).mono ?_
            rintro e w8 ⟨rfl, hq⟩
            have hd := Lib.hid ((hd.out.below hq).mono hq.size)
            have hh := Lib.hid ((hh.out.below hq).mono hq.size)
            have gd := Lib.hid ((gd.out.below hq).mono hq.size)
            have gh := Lib.hid ((gh.out.below hq).mono hq.size)
            have ch := Lib.hid (ch.out.trans (hq.mono ch.out.size))
            clear hq
            go_wp2_with fail
            refine (same_self hh.out gh.out).mono ?_
            rintro e w9 ⟨rfl, hq⟩
            have hd := Lib.hid ((hd.out.below hq).mono hq.size)
            have hh := Lib.hid ((hh.out.below hq).mono hq.size)
            have gd := Lib.hid ((gd.out.below hq).mono hq.size)
            have gh := Lib.hid ((gh.out.below hq).mono hq.size)
            have ch := Lib.hid (ch.out.trans (hq.mono ch.out.size))
            clear hq
            go_wp2_with fail
            refine (awake9_any _).mono ?_
            rintro e wz ⟨rfl, hqz⟩
            go_wp2
            go_ret
            exact ⟨rfl, ch.out.trans (hqz.mono ch.out.size)⟩
        obtain ⟨F, hF⟩ : ∃ F : Nat, fuel = F := ⟨fuel.toNat, by omega⟩
        subst hF
        have hF1 : (F : Int) ≤ 10000000 := by omega
        have hF0 : (0 : Int) ≤ F := by omega
        have HF := Lib.hid (show F ≤ 10000000 by omega)
        clear hout
        obtain ⟨bz, hbz⟩ : ∃ b, decide (codeN h ≤ 2000000) = b := ⟨_, rfl⟩
        have HBZ := Lib.hid hbz
        have hst := Lib.hid (codeOf_TS (validB_all Vh.out))
        obtain ⟨S, hS⟩ : ∃ S, codeOf h = S := ⟨_, rfl⟩
        have kc := Lib.hid (fun (w : World) (v : Value) (hl : InsRow w w.heap.size v h) => coded_b bz v h w hl Vh.out hbz)
        rw [hS] at kc hst
        clear hbz hS
        go_wp2_with fail
        refine (kc.out _ _ gh.out).mono ?_
        rintro e w7 ⟨rfl, hq⟩
        have hd := Lib.hid ((hd.out.below hq).mono hq.size)
        have hh := Lib.hid ((hh.out.below hq).mono hq.size)
        have gd := Lib.hid ((gd.out.below hq).mono hq.size)
        have gh := Lib.hid ((gh.out.below hq).mono hq.size)
        have ch := Lib.hid (ch.out.trans (hq.mono ch.out.size))
        clear hq
        cases bz with
        | false =>
          have HZ := Lib.hid (of_decide_eq_false HBZ.out)
          go_wp2_with fail
          refine (says_size _ _ d h F hd.out hh.out Vd.out Vh.out ⟨hF0, hF1⟩ HZ.out).mono ?_
          rintro e w8 ⟨rfl, hq⟩
          have hd := Lib.hid ((hd.out.below hq).mono hq.size)
          have hh := Lib.hid ((hh.out.below hq).mono hq.size)
          have gd := Lib.hid ((gd.out.below hq).mono hq.size)
          have gh := Lib.hid ((gh.out.below hq).mono hq.size)
          have ch := Lib.hid (ch.out.trans (hq.mono ch.out.size))
          clear hq
          go_wp2_with fail
          refine (same_self hd.out gd.out).mono ?_
          rintro e w9 ⟨rfl, hq⟩
          have hd := Lib.hid ((hd.out.below hq).mono hq.size)
          have hh := Lib.hid ((hh.out.below hq).mono hq.size)
          have gd := Lib.hid ((gd.out.below hq).mono hq.size)
          have gh := Lib.hid ((gh.out.below hq).mono hq.size)
          have ch := Lib.hid (ch.out.trans (hq.mono ch.out.size))
          clear hq
          go_wp2_with fail
          refine (same_self hh.out gh.out).mono ?_
          rintro e w10 ⟨rfl, hq⟩
          have hd := Lib.hid ((hd.out.below hq).mono hq.size)
          have hh := Lib.hid ((hh.out.below hq).mono hq.size)
          have gd := Lib.hid ((gd.out.below hq).mono hq.size)
          have gh := Lib.hid ((gh.out.below hq).mono hq.size)
          have ch := Lib.hid (ch.out.trans (hq.mono ch.out.size))
          clear hq
          go_wp2_with fail
          refine (awake9_any _).mono ?_
          rintro e wz ⟨rfl, hqz⟩
          go_wp2
          go_ret
          exact ⟨rfl, ch.out.trans (hqz.mono ch.out.size)⟩
        | true =>
          have HZ := Lib.hid (of_decide_eq_true HBZ.out)
          have HCS := Lib.hid (show (codeT h).size ≤ 2000000 by rw [codeT_size Vh.out]; exact HZ.out)
          have kr := Lib.hid (fun w => read_ok (codeT h) HCS.out w)
          rw [← hst.out] at kr
          by_cases hmore : (300000 : Int) < F
          ·
            cases hg : goF d 300000 0 (startS (codeT h)) with
            | fuel s m =>
              have HG := Lib.hid hg
              clear hg
              go_wp2_with fail
              refine (load_any _ _ _ gd.out Vd.out).mono ?_
              rintro e w8 ⟨gm, tm, rfl, hM, hq⟩
              have hd := Lib.hid ((hd.out.below hq).mono hq.size)
              have hh := Lib.hid ((hh.out.below hq).mono hq.size)
              have gd := Lib.hid ((gd.out.below hq).mono hq.size)
              have gh := Lib.hid ((gh.out.below hq).mono hq.size)
              have ch := Lib.hid (ch.out.trans (hq.mono ch.out.size))
              clear hq
              have hM := Lib.hid hM
              go_wp2_with fail
              refine (kr.out _).mono ?_
              rintro e w9 ⟨cq, rfl, hC, hq⟩
              have hM := Lib.hid (mach_lift hM.out hq)
              have hd := Lib.hid ((hd.out.below hq).mono hq.size)
              have hh := Lib.hid ((hh.out.below hq).mono hq.size)
              have gd := Lib.hid ((gd.out.below hq).mono hq.size)
              have gh := Lib.hid ((gh.out.below hq).mono hq.size)
              have ch := Lib.hid (ch.out.trans (hq.mono ch.out.size))
              clear hq
              have hC := Lib.hid hC
              go_wp2_with fail
              refine (rrun_fuel 300000 _ (by omega) (by have := HF.out; omega) HG.out hM.out hC.out HCS.out Vd.out).mono ?_
              rintro e w10 ⟨ry, rfl, hY, hq⟩
              have hC := Lib.hid (hC.out.kept (Kept.below hq))
              have hM := Lib.hid (mach_lift hM.out hq)
              have hd := Lib.hid ((hd.out.below hq).mono hq.size)
              have hh := Lib.hid ((hh.out.below hq).mono hq.size)
              have gd := Lib.hid ((gd.out.below hq).mono hq.size)
              have gh := Lib.hid ((gh.out.below hq).mono hq.size)
              have ch := Lib.hid (ch.out.trans (hq.mono ch.out.size))
              clear hq
              clear hM hC
              go_wp2_with fail
              refine (awake9_any _).mono ?_
              rintro e wz ⟨rfl, hqz⟩
              go_wp2
              go_ret
              exact ⟨rfl, ch.out.trans (hqz.mono ch.out.size)⟩
            | big =>
              have HG := Lib.hid hg
              have HG2 := Lib.hid (goF_big_more hg (F := F) (by omega))
              clear hg
              go_wp2_with fail
              refine (load_any _ _ _ gd.out Vd.out).mono ?_
              rintro e w8 ⟨gm, tm, rfl, hM, hq⟩
              have hd := Lib.hid ((hd.out.below hq).mono hq.size)
              have hh := Lib.hid ((hh.out.below hq).mono hq.size)
              have gd := Lib.hid ((gd.out.below hq).mono hq.size)
              have gh := Lib.hid ((gh.out.below hq).mono hq.size)
              have ch := Lib.hid (ch.out.trans (hq.mono ch.out.size))
              clear hq
              have hM := Lib.hid hM
              go_wp2_with fail
              refine (kr.out _).mono ?_
              rintro e w9 ⟨cq, rfl, hC, hq⟩
              have hM := Lib.hid (mach_lift hM.out hq)
              have hd := Lib.hid ((hd.out.below hq).mono hq.size)
              have hh := Lib.hid ((hh.out.below hq).mono hq.size)
              have gd := Lib.hid ((gd.out.below hq).mono hq.size)
              have gh := Lib.hid ((gh.out.below hq).mono hq.size)
              have ch := Lib.hid (ch.out.trans (hq.mono ch.out.size))
              clear hq
              have hC := Lib.hid hC
              go_wp2_with fail
              refine (rrun_big 300000 _ (by omega) (by have := HF.out; omega) HG.out hM.out hC.out HCS.out Vd.out).mono ?_
              rintro e w10 ⟨ry, rfl, hY, hq⟩
              have hC := Lib.hid (hC.out.kept (Kept.below hq))
              have hM := Lib.hid (mach_lift hM.out hq)
              have hd := Lib.hid ((hd.out.below hq).mono hq.size)
              have hh := Lib.hid ((hh.out.below hq).mono hq.size)
              have gd := Lib.hid ((gd.out.below hq).mono hq.size)
              have gh := Lib.hid ((gh.out.below hq).mono hq.size)
              have ch := Lib.hid (ch.out.trans (hq.mono ch.out.size))
              clear hq
              clear hM hC
              clear hY
              go_wp2_with fail
              refine (says_ok _ _ d h F hd.out hh.out Vd.out Vh.out HF.out HZ.out false 0 3 (by rw [HG2.out]; rfl)).mono ?_
              rintro e w11 ⟨rfl, hq⟩
              have hd := Lib.hid ((hd.out.below hq).mono hq.size)
              have hh := Lib.hid ((hh.out.below hq).mono hq.size)
              have gd := Lib.hid ((gd.out.below hq).mono hq.size)
              have gh := Lib.hid ((gh.out.below hq).mono hq.size)
              have ch := Lib.hid (ch.out.trans (hq.mono ch.out.size))
              clear hq
              go_wp2_with fail
              refine (same_self hd.out gd.out).mono ?_
              rintro e w12 ⟨rfl, hq⟩
              have hd := Lib.hid ((hd.out.below hq).mono hq.size)
              have hh := Lib.hid ((hh.out.below hq).mono hq.size)
              have gd := Lib.hid ((gd.out.below hq).mono hq.size)
              have gh := Lib.hid ((gh.out.below hq).mono hq.size)
              have ch := Lib.hid (ch.out.trans (hq.mono ch.out.size))
              clear hq
              go_wp2_with fail
              refine (same_self hh.out gh.out).mono ?_
              rintro e w13 ⟨rfl, hq⟩
              have hd := Lib.hid ((hd.out.below hq).mono hq.size)
              have hh := Lib.hid ((hh.out.below hq).mono hq.size)
              have gd := Lib.hid ((gd.out.below hq).mono hq.size)
              have gh := Lib.hid ((gh.out.below hq).mono hq.size)
              have ch := Lib.hid (ch.out.trans (hq.mono ch.out.size))
              clear hq
              go_wp2_with fail
              refine (awake9_any _).mono ?_
              rintro e wz ⟨rfl, hqz⟩
              go_wp2
              go_ret
              exact ⟨rfl, ch.out.trans (hqz.mono ch.out.size)⟩
            | done s m =>
              have hm0 := done_le hg
              have hmI : (m : Int) ≤ 10000000 := by omega
              have HG := Lib.hid hg
              have HG2 := Lib.hid (goF_done_more hg (F := F) (by omega))
              clear hg hm0
              cases ht : getR s.regs 0 with
              | nil =>
                go_wp2_with fail
                refine (load_any _ _ _ gd.out Vd.out).mono ?_
                rintro e w8 ⟨gm, tm, rfl, hM, hq⟩
                have hd := Lib.hid ((hd.out.below hq).mono hq.size)
                have hh := Lib.hid ((hh.out.below hq).mono hq.size)
                have gd := Lib.hid ((gd.out.below hq).mono hq.size)
                have gh := Lib.hid ((gh.out.below hq).mono hq.size)
                have ch := Lib.hid (ch.out.trans (hq.mono ch.out.size))
                clear hq
                have hM := Lib.hid hM
                go_wp2_with fail
                refine (kr.out _).mono ?_
                rintro e w9 ⟨cq, rfl, hC, hq⟩
                have hM := Lib.hid (mach_lift hM.out hq)
                have hd := Lib.hid ((hd.out.below hq).mono hq.size)
                have hh := Lib.hid ((hh.out.below hq).mono hq.size)
                have gd := Lib.hid ((gd.out.below hq).mono hq.size)
                have gh := Lib.hid ((gh.out.below hq).mono hq.size)
                have ch := Lib.hid (ch.out.trans (hq.mono ch.out.size))
                clear hq
                have hC := Lib.hid hC
                go_wp2_with fail
                refine (rrun_done 300000 _ (by omega) (by have := HF.out; omega) HG.out hM.out hC.out HCS.out Vd.out).mono ?_
                rintro e w10 ⟨ry, rfl, hY, hq⟩
                have hC := Lib.hid (hC.out.kept (Kept.below hq))
                have hM := Lib.hid (mach_lift hM.out hq)
                have hd := Lib.hid ((hd.out.below hq).mono hq.size)
                have hh := Lib.hid ((hh.out.below hq).mono hq.size)
                have gd := Lib.hid ((gd.out.below hq).mono hq.size)
                have gh := Lib.hid ((gh.out.below hq).mono hq.size)
                have ch := Lib.hid (ch.out.trans (hq.mono ch.out.size))
                clear hq
                clear hM hC
                rw [ht] at hY
                obtain rfl := node_nil hY
                have HR := Lib.hid (show saysB (goF d F 0 (startS (codeT h))) = (false, m, 0) by rw [HG2.out]; simp [saysB, ht])
                clear hY ht
                go_wp2_with fail
                refine (says_ok _ _ d h F hd.out hh.out Vd.out Vh.out HF.out HZ.out false m 0 HR.out).mono ?_
                rintro e w11 ⟨rfl, hq⟩
                have hd := Lib.hid ((hd.out.below hq).mono hq.size)
                have hh := Lib.hid ((hh.out.below hq).mono hq.size)
                have gd := Lib.hid ((gd.out.below hq).mono hq.size)
                have gh := Lib.hid ((gh.out.below hq).mono hq.size)
                have ch := Lib.hid (ch.out.trans (hq.mono ch.out.size))
                clear hq
                go_wp2_with fail
                refine (same_self hd.out gd.out).mono ?_
                rintro e w12 ⟨rfl, hq⟩
                have hd := Lib.hid ((hd.out.below hq).mono hq.size)
                have hh := Lib.hid ((hh.out.below hq).mono hq.size)
                have gd := Lib.hid ((gd.out.below hq).mono hq.size)
                have gh := Lib.hid ((gh.out.below hq).mono hq.size)
                have ch := Lib.hid (ch.out.trans (hq.mono ch.out.size))
                clear hq
                go_wp2_with fail
                refine (same_self hh.out gh.out).mono ?_
                rintro e w13 ⟨rfl, hq⟩
                have hd := Lib.hid ((hd.out.below hq).mono hq.size)
                have hh := Lib.hid ((hh.out.below hq).mono hq.size)
                have gd := Lib.hid ((gd.out.below hq).mono hq.size)
                have gh := Lib.hid ((gh.out.below hq).mono hq.size)
                have ch := Lib.hid (ch.out.trans (hq.mono ch.out.size))
                clear hq
                go_wp2_with fail
                refine (awake9_any _).mono ?_
                rintro e wz ⟨rfl, hqz⟩
                go_wp2
                go_ret
                exact ⟨rfl, ch.out.trans (hqz.mono ch.out.size)⟩
              | pair a c =>
                go_wp2_with fail
                refine (load_any _ _ _ gd.out Vd.out).mono ?_
                rintro e w8 ⟨gm, tm, rfl, hM, hq⟩
                have hd := Lib.hid ((hd.out.below hq).mono hq.size)
                have hh := Lib.hid ((hh.out.below hq).mono hq.size)
                have gd := Lib.hid ((gd.out.below hq).mono hq.size)
                have gh := Lib.hid ((gh.out.below hq).mono hq.size)
                have ch := Lib.hid (ch.out.trans (hq.mono ch.out.size))
                clear hq
                have hM := Lib.hid hM
                go_wp2_with fail
                refine (kr.out _).mono ?_
                rintro e w9 ⟨cq, rfl, hC, hq⟩
                have hM := Lib.hid (mach_lift hM.out hq)
                have hd := Lib.hid ((hd.out.below hq).mono hq.size)
                have hh := Lib.hid ((hh.out.below hq).mono hq.size)
                have gd := Lib.hid ((gd.out.below hq).mono hq.size)
                have gh := Lib.hid ((gh.out.below hq).mono hq.size)
                have ch := Lib.hid (ch.out.trans (hq.mono ch.out.size))
                clear hq
                have hC := Lib.hid hC
                go_wp2_with fail
                refine (rrun_done 300000 _ (by omega) (by have := HF.out; omega) HG.out hM.out hC.out HCS.out Vd.out).mono ?_
                rintro e w10 ⟨ry, rfl, hY, hq⟩
                have hC := Lib.hid (hC.out.kept (Kept.below hq))
                have hM := Lib.hid (mach_lift hM.out hq)
                have hd := Lib.hid ((hd.out.below hq).mono hq.size)
                have hh := Lib.hid ((hh.out.below hq).mono hq.size)
                have gd := Lib.hid ((gd.out.below hq).mono hq.size)
                have gh := Lib.hid ((gh.out.below hq).mono hq.size)
                have ch := Lib.hid (ch.out.trans (hq.mono ch.out.size))
                clear hq
                clear hM hC
                rw [ht] at hY
                obtain ⟨g3, x3, y3, hgo, -⟩ := hY.cells
                injection hgo with hgo
                subst hgo
                have HR := Lib.hid (show saysB (goF d F 0 (startS (codeT h))) = (true, m, 0) by rw [HG2.out]; simp [saysB, ht])
                clear hY ht
                go_wp2_with fail
                refine (says_ok _ _ d h F hd.out hh.out Vd.out Vh.out HF.out HZ.out true m 0 HR.out).mono ?_
                rintro e w11 ⟨rfl, hq⟩
                have hd := Lib.hid ((hd.out.below hq).mono hq.size)
                have hh := Lib.hid ((hh.out.below hq).mono hq.size)
                have gd := Lib.hid ((gd.out.below hq).mono hq.size)
                have gh := Lib.hid ((gh.out.below hq).mono hq.size)
                have ch := Lib.hid (ch.out.trans (hq.mono ch.out.size))
                clear hq
                go_wp2_with fail
                refine (same_self hd.out gd.out).mono ?_
                rintro e w12 ⟨rfl, hq⟩
                have hd := Lib.hid ((hd.out.below hq).mono hq.size)
                have hh := Lib.hid ((hh.out.below hq).mono hq.size)
                have gd := Lib.hid ((gd.out.below hq).mono hq.size)
                have gh := Lib.hid ((gh.out.below hq).mono hq.size)
                have ch := Lib.hid (ch.out.trans (hq.mono ch.out.size))
                clear hq
                go_wp2_with fail
                refine (same_self hh.out gh.out).mono ?_
                rintro e w13 ⟨rfl, hq⟩
                have hd := Lib.hid ((hd.out.below hq).mono hq.size)
                have hh := Lib.hid ((hh.out.below hq).mono hq.size)
                have gd := Lib.hid ((gd.out.below hq).mono hq.size)
                have gh := Lib.hid ((gh.out.below hq).mono hq.size)
                have ch := Lib.hid (ch.out.trans (hq.mono ch.out.size))
                clear hq
                go_wp2_with fail
                refine (awake9_any _).mono ?_
                rintro e wz ⟨rfl, hqz⟩
                go_wp2
                go_ret
                exact ⟨rfl, ch.out.trans (hqz.mono ch.out.size)⟩
          ·
            have hle9 : (F : Int) ≤ 300000 := by omega
            cases hg : goF d F 0 (startS (codeT h)) with
            | fuel s m =>
              have HG := Lib.hid hg
              clear hg
              go_wp2_with fail
              refine (load_any _ _ _ gd.out Vd.out).mono ?_
              rintro e w8 ⟨gm, tm, rfl, hM, hq⟩
              have hd := Lib.hid ((hd.out.below hq).mono hq.size)
              have hh := Lib.hid ((hh.out.below hq).mono hq.size)
              have gd := Lib.hid ((gd.out.below hq).mono hq.size)
              have gh := Lib.hid ((gh.out.below hq).mono hq.size)
              have ch := Lib.hid (ch.out.trans (hq.mono ch.out.size))
              clear hq
              have hM := Lib.hid hM
              go_wp2_with fail
              refine (kr.out _).mono ?_
              rintro e w9 ⟨cq, rfl, hC, hq⟩
              have hM := Lib.hid (mach_lift hM.out hq)
              have hd := Lib.hid ((hd.out.below hq).mono hq.size)
              have hh := Lib.hid ((hh.out.below hq).mono hq.size)
              have gd := Lib.hid ((gd.out.below hq).mono hq.size)
              have gh := Lib.hid ((gh.out.below hq).mono hq.size)
              have ch := Lib.hid (ch.out.trans (hq.mono ch.out.size))
              clear hq
              have hC := Lib.hid hC
              go_wp2_with fail
              refine (rrun_fuel F _ (by omega) (by have := HF.out; omega) HG.out hM.out hC.out HCS.out Vd.out).mono ?_
              rintro e w10 ⟨ry, rfl, hY, hq⟩
              have hC := Lib.hid (hC.out.kept (Kept.below hq))
              have hM := Lib.hid (mach_lift hM.out hq)
              have hd := Lib.hid ((hd.out.below hq).mono hq.size)
              have hh := Lib.hid ((hh.out.below hq).mono hq.size)
              have gd := Lib.hid ((gd.out.below hq).mono hq.size)
              have gh := Lib.hid ((gh.out.below hq).mono hq.size)
              have ch := Lib.hid (ch.out.trans (hq.mono ch.out.size))
              clear hq
              clear hM hC
              clear hY
              go_wp2_with fail
              refine (says_ok _ _ d h F hd.out hh.out Vd.out Vh.out HF.out HZ.out false 0 7 (by rw [HG.out]; rfl)).mono ?_
              rintro e w11 ⟨rfl, hq⟩
              have hd := Lib.hid ((hd.out.below hq).mono hq.size)
              have hh := Lib.hid ((hh.out.below hq).mono hq.size)
              have gd := Lib.hid ((gd.out.below hq).mono hq.size)
              have gh := Lib.hid ((gh.out.below hq).mono hq.size)
              have ch := Lib.hid (ch.out.trans (hq.mono ch.out.size))
              clear hq
              go_wp2_with fail
              refine (same_self hd.out gd.out).mono ?_
              rintro e w12 ⟨rfl, hq⟩
              have hd := Lib.hid ((hd.out.below hq).mono hq.size)
              have hh := Lib.hid ((hh.out.below hq).mono hq.size)
              have gd := Lib.hid ((gd.out.below hq).mono hq.size)
              have gh := Lib.hid ((gh.out.below hq).mono hq.size)
              have ch := Lib.hid (ch.out.trans (hq.mono ch.out.size))
              clear hq
              go_wp2_with fail
              refine (same_self hh.out gh.out).mono ?_
              rintro e w13 ⟨rfl, hq⟩
              have hd := Lib.hid ((hd.out.below hq).mono hq.size)
              have hh := Lib.hid ((hh.out.below hq).mono hq.size)
              have gd := Lib.hid ((gd.out.below hq).mono hq.size)
              have gh := Lib.hid ((gh.out.below hq).mono hq.size)
              have ch := Lib.hid (ch.out.trans (hq.mono ch.out.size))
              clear hq
              go_wp2_with fail
              refine (awake9_any _).mono ?_
              rintro e wz ⟨rfl, hqz⟩
              go_wp2
              go_ret
              exact ⟨rfl, ch.out.trans (hqz.mono ch.out.size)⟩
            | big =>
              have HG := Lib.hid hg
              have HG2 := Lib.hid (goF_big_more hg (F := F) (Nat.le_refl _))
              clear hg
              go_wp2_with fail
              refine (load_any _ _ _ gd.out Vd.out).mono ?_
              rintro e w8 ⟨gm, tm, rfl, hM, hq⟩
              have hd := Lib.hid ((hd.out.below hq).mono hq.size)
              have hh := Lib.hid ((hh.out.below hq).mono hq.size)
              have gd := Lib.hid ((gd.out.below hq).mono hq.size)
              have gh := Lib.hid ((gh.out.below hq).mono hq.size)
              have ch := Lib.hid (ch.out.trans (hq.mono ch.out.size))
              clear hq
              have hM := Lib.hid hM
              go_wp2_with fail
              refine (kr.out _).mono ?_
              rintro e w9 ⟨cq, rfl, hC, hq⟩
              have hM := Lib.hid (mach_lift hM.out hq)
              have hd := Lib.hid ((hd.out.below hq).mono hq.size)
              have hh := Lib.hid ((hh.out.below hq).mono hq.size)
              have gd := Lib.hid ((gd.out.below hq).mono hq.size)
              have gh := Lib.hid ((gh.out.below hq).mono hq.size)
              have ch := Lib.hid (ch.out.trans (hq.mono ch.out.size))
              clear hq
              have hC := Lib.hid hC
              go_wp2_with fail
              refine (rrun_big F _ (by omega) (by have := HF.out; omega) HG.out hM.out hC.out HCS.out Vd.out).mono ?_
              rintro e w10 ⟨ry, rfl, hY, hq⟩
              have hC := Lib.hid (hC.out.kept (Kept.below hq))
              have hM := Lib.hid (mach_lift hM.out hq)
              have hd := Lib.hid ((hd.out.below hq).mono hq.size)
              have hh := Lib.hid ((hh.out.below hq).mono hq.size)
              have gd := Lib.hid ((gd.out.below hq).mono hq.size)
              have gh := Lib.hid ((gh.out.below hq).mono hq.size)
              have ch := Lib.hid (ch.out.trans (hq.mono ch.out.size))
              clear hq
              clear hM hC
              clear hY
              go_wp2_with fail
              refine (says_ok _ _ d h F hd.out hh.out Vd.out Vh.out HF.out HZ.out false 0 3 (by rw [HG2.out]; rfl)).mono ?_
              rintro e w11 ⟨rfl, hq⟩
              have hd := Lib.hid ((hd.out.below hq).mono hq.size)
              have hh := Lib.hid ((hh.out.below hq).mono hq.size)
              have gd := Lib.hid ((gd.out.below hq).mono hq.size)
              have gh := Lib.hid ((gh.out.below hq).mono hq.size)
              have ch := Lib.hid (ch.out.trans (hq.mono ch.out.size))
              clear hq
              go_wp2_with fail
              refine (same_self hd.out gd.out).mono ?_
              rintro e w12 ⟨rfl, hq⟩
              have hd := Lib.hid ((hd.out.below hq).mono hq.size)
              have hh := Lib.hid ((hh.out.below hq).mono hq.size)
              have gd := Lib.hid ((gd.out.below hq).mono hq.size)
              have gh := Lib.hid ((gh.out.below hq).mono hq.size)
              have ch := Lib.hid (ch.out.trans (hq.mono ch.out.size))
              clear hq
              go_wp2_with fail
              refine (same_self hh.out gh.out).mono ?_
              rintro e w13 ⟨rfl, hq⟩
              have hd := Lib.hid ((hd.out.below hq).mono hq.size)
              have hh := Lib.hid ((hh.out.below hq).mono hq.size)
              have gd := Lib.hid ((gd.out.below hq).mono hq.size)
              have gh := Lib.hid ((gh.out.below hq).mono hq.size)
              have ch := Lib.hid (ch.out.trans (hq.mono ch.out.size))
              clear hq
              go_wp2_with fail
              refine (awake9_any _).mono ?_
              rintro e wz ⟨rfl, hqz⟩
              go_wp2
              go_ret
              exact ⟨rfl, ch.out.trans (hqz.mono ch.out.size)⟩
            | done s m =>
              have hm0 := done_le hg
              have hmI : (m : Int) ≤ 10000000 := by omega
              have HG := Lib.hid hg
              have HG2 := Lib.hid (goF_done_more hg (F := F) (Nat.le_refl _))
              clear hg hm0
              cases ht : getR s.regs 0 with
              | nil =>
                go_wp2_with fail
                refine (load_any _ _ _ gd.out Vd.out).mono ?_
                rintro e w8 ⟨gm, tm, rfl, hM, hq⟩
                have hd := Lib.hid ((hd.out.below hq).mono hq.size)
                have hh := Lib.hid ((hh.out.below hq).mono hq.size)
                have gd := Lib.hid ((gd.out.below hq).mono hq.size)
                have gh := Lib.hid ((gh.out.below hq).mono hq.size)
                have ch := Lib.hid (ch.out.trans (hq.mono ch.out.size))
                clear hq
                have hM := Lib.hid hM
                go_wp2_with fail
                refine (kr.out _).mono ?_
                rintro e w9 ⟨cq, rfl, hC, hq⟩
                have hM := Lib.hid (mach_lift hM.out hq)
                have hd := Lib.hid ((hd.out.below hq).mono hq.size)
                have hh := Lib.hid ((hh.out.below hq).mono hq.size)
                have gd := Lib.hid ((gd.out.below hq).mono hq.size)
                have gh := Lib.hid ((gh.out.below hq).mono hq.size)
                have ch := Lib.hid (ch.out.trans (hq.mono ch.out.size))
                clear hq
                have hC := Lib.hid hC
                go_wp2_with fail
                refine (rrun_done F _ (by omega) (by have := HF.out; omega) HG.out hM.out hC.out HCS.out Vd.out).mono ?_
                rintro e w10 ⟨ry, rfl, hY, hq⟩
                have hC := Lib.hid (hC.out.kept (Kept.below hq))
                have hM := Lib.hid (mach_lift hM.out hq)
                have hd := Lib.hid ((hd.out.below hq).mono hq.size)
                have hh := Lib.hid ((hh.out.below hq).mono hq.size)
                have gd := Lib.hid ((gd.out.below hq).mono hq.size)
                have gh := Lib.hid ((gh.out.below hq).mono hq.size)
                have ch := Lib.hid (ch.out.trans (hq.mono ch.out.size))
                clear hq
                clear hM hC
                rw [ht] at hY
                obtain rfl := node_nil hY
                have HR := Lib.hid (show saysB (goF d F 0 (startS (codeT h))) = (false, m, 0) by rw [HG2.out]; simp [saysB, ht])
                clear hY ht
                go_wp2_with fail
                refine (says_ok _ _ d h F hd.out hh.out Vd.out Vh.out HF.out HZ.out false m 0 HR.out).mono ?_
                rintro e w11 ⟨rfl, hq⟩
                have hd := Lib.hid ((hd.out.below hq).mono hq.size)
                have hh := Lib.hid ((hh.out.below hq).mono hq.size)
                have gd := Lib.hid ((gd.out.below hq).mono hq.size)
                have gh := Lib.hid ((gh.out.below hq).mono hq.size)
                have ch := Lib.hid (ch.out.trans (hq.mono ch.out.size))
                clear hq
                go_wp2_with fail
                refine (same_self hd.out gd.out).mono ?_
                rintro e w12 ⟨rfl, hq⟩
                have hd := Lib.hid ((hd.out.below hq).mono hq.size)
                have hh := Lib.hid ((hh.out.below hq).mono hq.size)
                have gd := Lib.hid ((gd.out.below hq).mono hq.size)
                have gh := Lib.hid ((gh.out.below hq).mono hq.size)
                have ch := Lib.hid (ch.out.trans (hq.mono ch.out.size))
                clear hq
                go_wp2_with fail
                refine (same_self hh.out gh.out).mono ?_
                rintro e w13 ⟨rfl, hq⟩
                have hd := Lib.hid ((hd.out.below hq).mono hq.size)
                have hh := Lib.hid ((hh.out.below hq).mono hq.size)
                have gd := Lib.hid ((gd.out.below hq).mono hq.size)
                have gh := Lib.hid ((gh.out.below hq).mono hq.size)
                have ch := Lib.hid (ch.out.trans (hq.mono ch.out.size))
                clear hq
                go_wp2_with fail
                refine (awake9_any _).mono ?_
                rintro e wz ⟨rfl, hqz⟩
                go_wp2
                go_ret
                exact ⟨rfl, ch.out.trans (hqz.mono ch.out.size)⟩
              | pair a c =>
                go_wp2_with fail
                refine (load_any _ _ _ gd.out Vd.out).mono ?_
                rintro e w8 ⟨gm, tm, rfl, hM, hq⟩
                have hd := Lib.hid ((hd.out.below hq).mono hq.size)
                have hh := Lib.hid ((hh.out.below hq).mono hq.size)
                have gd := Lib.hid ((gd.out.below hq).mono hq.size)
                have gh := Lib.hid ((gh.out.below hq).mono hq.size)
                have ch := Lib.hid (ch.out.trans (hq.mono ch.out.size))
                clear hq
                have hM := Lib.hid hM
                go_wp2_with fail
                refine (kr.out _).mono ?_
                rintro e w9 ⟨cq, rfl, hC, hq⟩
                have hM := Lib.hid (mach_lift hM.out hq)
                have hd := Lib.hid ((hd.out.below hq).mono hq.size)
                have hh := Lib.hid ((hh.out.below hq).mono hq.size)
                have gd := Lib.hid ((gd.out.below hq).mono hq.size)
                have gh := Lib.hid ((gh.out.below hq).mono hq.size)
                have ch := Lib.hid (ch.out.trans (hq.mono ch.out.size))
                clear hq
                have hC := Lib.hid hC
                go_wp2_with fail
                refine (rrun_done F _ (by omega) (by have := HF.out; omega) HG.out hM.out hC.out HCS.out Vd.out).mono ?_
                rintro e w10 ⟨ry, rfl, hY, hq⟩
                have hC := Lib.hid (hC.out.kept (Kept.below hq))
                have hM := Lib.hid (mach_lift hM.out hq)
                have hd := Lib.hid ((hd.out.below hq).mono hq.size)
                have hh := Lib.hid ((hh.out.below hq).mono hq.size)
                have gd := Lib.hid ((gd.out.below hq).mono hq.size)
                have gh := Lib.hid ((gh.out.below hq).mono hq.size)
                have ch := Lib.hid (ch.out.trans (hq.mono ch.out.size))
                clear hq
                clear hM hC
                rw [ht] at hY
                obtain ⟨g3, x3, y3, hgo, -⟩ := hY.cells
                injection hgo with hgo
                subst hgo
                have HR := Lib.hid (show saysB (goF d F 0 (startS (codeT h))) = (true, m, 0) by rw [HG2.out]; simp [saysB, ht])
                clear hY ht
                go_wp2_with fail
                refine (says_ok _ _ d h F hd.out hh.out Vd.out Vh.out HF.out HZ.out true m 0 HR.out).mono ?_
                rintro e w11 ⟨rfl, hq⟩
                have hd := Lib.hid ((hd.out.below hq).mono hq.size)
                have hh := Lib.hid ((hh.out.below hq).mono hq.size)
                have gd := Lib.hid ((gd.out.below hq).mono hq.size)
                have gh := Lib.hid ((gh.out.below hq).mono hq.size)
                have ch := Lib.hid (ch.out.trans (hq.mono ch.out.size))
                clear hq
                go_wp2_with fail
                refine (same_self hd.out gd.out).mono ?_
                rintro e w12 ⟨rfl, hq⟩
                have hd := Lib.hid ((hd.out.below hq).mono hq.size)
                have hh := Lib.hid ((hh.out.below hq).mono hq.size)
                have gd := Lib.hid ((gd.out.below hq).mono hq.size)
                have gh := Lib.hid ((gh.out.below hq).mono hq.size)
                have ch := Lib.hid (ch.out.trans (hq.mono ch.out.size))
                clear hq
                go_wp2_with fail
                refine (same_self hh.out gh.out).mono ?_
                rintro e w13 ⟨rfl, hq⟩
                have hd := Lib.hid ((hd.out.below hq).mono hq.size)
                have hh := Lib.hid ((hh.out.below hq).mono hq.size)
                have gd := Lib.hid ((gd.out.below hq).mono hq.size)
                have gh := Lib.hid ((gh.out.below hq).mono hq.size)
                have ch := Lib.hid (ch.out.trans (hq.mono ch.out.size))
                clear hq
                go_wp2_with fail
                refine (awake9_any _).mono ?_
                rintro e wz ⟨rfl, hqz⟩
                go_wp2
                go_ret
                exact ⟨rfl, ch.out.trans (hqz.mono ch.out.size)⟩
end Go.Proofs.Ytaiomcjopgnfpaa


/- narcissustop: pads, TopMany. -/
import Derived.Test.YtdjbcmfjlfkcjaaTop8
import Derived.Test.YtdjbcmfjlfkcjaaPadF
import Derived.Test.YtdjbcmfjlfkcjaaOrd8
import Derived.Test.YtdjbcmfjlfkcjaaMB3
import Derived.Test.YtdjbcmfjlfkcjaaMB4
namespace Go.Proofs.Ytdjbcmfjlfkcjaa
open Go.RowKit

theorem next3 (w : World) : Calls Try.prog 41 #[.string ⟨#[49, 49, 48, 48, 48]⟩] w fun e w' => e = .returned (.tuple #[.string ⟨#[49, 48, 49, 48, 49, 48, 48]⟩, .int .i64 0]) ∧ Below w.heap.size w w' :=
  next_seq 3 3 (by omega) (by rw [wsum_four]; omega) w
theorem pad_nil (w : World) : Calls Try.prog 57 #[.slice none 0 0, .int .i64 2] w fun e w' => ∃ a c, e = .returned (.tuple #[.slice a 2 c, .int .i64 0]) ∧ Below w.heap.size w w' := by
  have hp : InsRow w w.heap.size (.slice none 0 0) [] := ⟨by simp, by simp, .inl ⟨rfl, .inl rfl⟩⟩
  have hv : validB [] = true := by simp [validB, trees, rightAll]
  refine (pad_ok _ [] w hp 2 hv (by omega) (by simp)).mono ?_
  rintro e w' ⟨a, c, he, _, hb⟩
  exact ⟨a, c, he, hb⟩
theorem pads_any (w : World) : Calls Try.prog 62 #[] w fun e w' => e = .returned (.bool true) ∧ Below w.heap.size w w' := by
  go_enter Try.func62, Try.ntmps62
  go_wp2_with fail
  refine (pad_nil _).mono ?_
  rintro e w1 ⟨a, c, rfl, hb1⟩
  have HB1 := Lib.hid hb1
  clear hb1
  go_wp2_with fail
  refine (next3 _).mono ?_
  rintro e w2 ⟨rfl, hb2⟩
  have HB2 := Lib.hid (HB1.out.trans (hb2.mono HB1.out.size))
  clear hb2 HB1
  go_wp2
  go_ret
  exact ⟨rfl, HB2.out⟩
theorem pad_code {q : List Ins} (hq : rightAll q = true) (hl : q.length ≤ 200) (ht : trees q ≤ 5000) (n : Nat) (hn : n < 60) : codeN (padL q n) ≤ 2000000 := by
  have h := codeN_small (padL q n) (padL_right hq n) (by rw [padL_len]; omega)
  rw [padL_len, padL_trees] at h
  omega
theorem codeT_eq {p q : List Ins} (hp : validB p = true) (hq : validB q = true) (h : codeT p = codeT q) : p = q := by
  have h1 := decT_of hp
  rw [h, decT_of hq] at h1
  injection h1 with h1
  exact h1.symm
theorem notD_less {P : List Ins} {s0 : St} {K K' : Nat} (h : NotD P s0 K') (hK : K ≤ K') : NotD P s0 K := fun s m e => by
  rcases goF_how P K 0 s0 with ⟨s', m', h1, h2, h3, h4⟩ | ⟨s', h1, _⟩ | ⟨s', m', h1, _⟩
  · exact h _ _ (h3.done h4 K' (by omega))
  · rw [e] at h1; cases h1
  · rw [e] at h1; cases h1
/-- The remainder that is not negative. -/
theorem rem60 (a : Int) : ∃ n : Nat, n < 60 ∧ (a.tmod 60 + 60).tmod 60 = (n : Int) ∧ -60 < a.tmod 60 ∧ a.tmod 60 < 60 := by
  have h1 := Int.tmod_lt_of_pos a (show (0 : Int) < 60 by omega)
  have h2 : -60 < a.tmod 60 := by
    rcases Int.le_total 0 a with h | h
    · have := Int.tmod_nonneg 60 h; omega
    · have h3 : a.tmod 60 = -((-a).tmod 60) := by rw [Int.neg_tmod, Int.neg_neg]
      have h4 := Int.tmod_lt_of_pos (-a) (show (0 : Int) < 60 by omega)
      omega
  have h3 := Int.tmod_nonneg 60 (show 0 ≤ a.tmod 60 + 60 by omega)
  have h4 := Int.tmod_lt_of_pos (a.tmod 60 + 60) (show (0 : Int) < 60 by omega)
  exact ⟨((a.tmod 60 + 60).tmod 60).toNat, by omega, by omega, h2, h1⟩

set_option maxRecDepth 20000 in
set_option maxHeartbeats 16000000 in
theorem law_TopMany {w : World} (vq : Value) (q : List Ins) (hhq : InsRow w w.heap.size vq q) (a : Int) (ha : i64 a) (b : Int) (hb : i64 b) (x : ByteArray) (hxs : x.size ≤ 140737488355328) :
    Calls Try.prog 16 #[vq, .agg #[.int .i64 a, .int .i64 b], .string x] w fun e w' => e = .returned (.bool true) ∧ Below w.heap.size w w' := by
  obtain ⟨qa, qc, rfl⟩ := hhq.len
  obtain ⟨qn, hqn⟩ : ∃ lz, q.length = lz := ⟨_, rfl⟩
  rw [hqn] at hhq ⊢
  have HQN := Lib.hid hqn
  have hq0 := Lib.hid hhq
  have HXS := Lib.hid hxs
  obtain ⟨bg, hbg⟩ : ∃ b, growB x 2000 = b := ⟨_, rfl⟩
  have HBG := Lib.hid hbg
  obtain ⟨bf, hbf⟩ : ∃ b, goodB q 200 5000 = b := ⟨_, rfl⟩
  have HBF := Lib.hid hbf
  have kg := Lib.hid (fun w => tgrow_any x hxs 2000 (by omega) w)
  have kgood := Lib.hid (fun v w hl => tgood_any v q 200 5000 (by omega) (by omega) w hl)
  rw [hbf] at kgood
  obtain ⟨n, hn, hna, hnb, hnc⟩ := rem60 a
  obtain ⟨m, hm, hma, hmb, hmc⟩ := rem60 b
  have HN := Lib.hid hn
  have HM := Lib.hid hm
  have HA := Lib.hid (show (∃ r, a.tmod 60 = r ∧ (r + 60).tmod 60 = (n : Int) ∧ -60 < r ∧ r < 60) ∧ ∃ r, b.tmod 60 = r ∧ (r + 60).tmod 60 = (m : Int) ∧ -60 < r ∧ r < 60 from ⟨⟨_, rfl, hna, hnb, hnc⟩, ⟨_, rfl, hma, hmb, hmc⟩⟩)
  have hia : -9223372036854775808 ≤ a ∧ a ≤ 9223372036854775807 := ha
  have hib : -9223372036854775808 ≤ b ∧ b ≤ 9223372036854775807 := hb
  have HIA := Lib.hid hia
  have HIB := Lib.hid hib
  have hba := (Below.refl w.heap.size w).alloc (Nat.le_refl _) (.cells #[.int .i64 a, .int .i64 b] 80)
  have hblk := heap_alloc_new w (.cells #[.int .i64 a, .int .i64 b] 80)
  have HBA := Lib.hid hba
  have HBLK := Lib.hid hblk
  clear hhq hqn hxs hbg hbf hn hm hna hnb hnc hma hmb hmc hia hib hba hblk ha hb
  cases bg with
  | false =>
    have ch := Lib.hid (Below.refl w.heap.size w)
    go_enter Try.func16, Try.ntmps16
    go_wp2_with fail
    obtain ⟨w1, hW⟩ : ∃ B, w.alloc (.cells #[.int .i64 a, .int .i64 b] 80) = B := ⟨_, rfl⟩
    have hq := HBA.out
    have hbx := HBLK.out
    rw [hW] at hq hbx ⊢
    clear hW HBA HBLK
    obtain ⟨bx, hbxe⟩ : ∃ z, w.heap.size = z := ⟨_, rfl⟩
    rw [hbxe] at hbx
    try rw [hbxe]
    have HBXE := Lib.hid hbxe
    clear hbxe
    have HBX := Lib.hid hbx
    clear hbx
    have hq0 := Lib.hid ((hq0.out.below hq).mono hq.size)
    have ch := Lib.hid (ch.out.trans (hq.mono ch.out.size))
    clear hq
    refine (kg.out _).mono ?_
    rintro e w2 ⟨xq, rfl, hX, -, hq⟩
    have hq0 := Lib.hid ((hq0.out.below hq).mono hq.size)
    have ch := Lib.hid (ch.out.trans (hq.mono ch.out.size))
    have HBX := Lib.hid (blk_lift hq HBX.out)
    clear hq
    rw [HBG.out]
    clear hX
    go_wp2_with fail
    refine (kgood.out _ _ hq0.out).mono ?_
    rintro e w3 ⟨rfl, hq⟩
    have hq0 := Lib.hid ((hq0.out.below hq).mono hq.size)
    have ch := Lib.hid (ch.out.trans (hq.mono ch.out.size))
    have HBX := Lib.hid (blk_lift hq HBX.out)
    clear hq
    cases bf with
    | false =>
      go_wp2_with fail
      refine (pads_any _).mono ?_
      rintro e wz ⟨rfl, hqz⟩
      go_wp2
      go_ret
      exact ⟨rfl, ch.out.trans (hqz.mono ch.out.size)⟩
    | true =>
      go_wp2_with fail
      refine (pads_any _).mono ?_
      rintro e wz ⟨rfl, hqz⟩
      go_wp2
      go_ret
      exact ⟨rfl, ch.out.trans (hqz.mono ch.out.size)⟩
  | true =>
    have ch := Lib.hid (Below.refl w.heap.size w)
    go_enter Try.func16, Try.ntmps16
    go_wp2_with fail
    obtain ⟨w1, hW⟩ : ∃ B, w.alloc (.cells #[.int .i64 a, .int .i64 b] 80) = B := ⟨_, rfl⟩
    have hq := HBA.out
    have hbx := HBLK.out
    rw [hW] at hq hbx ⊢
    clear hW HBA HBLK
    obtain ⟨bx, hbxe⟩ : ∃ z, w.heap.size = z := ⟨_, rfl⟩
    rw [hbxe] at hbx
    try rw [hbxe]
    have HBXE := Lib.hid hbxe
    clear hbxe
    have HBX := Lib.hid hbx
    clear hbx
    have hq0 := Lib.hid ((hq0.out.below hq).mono hq.size)
    have ch := Lib.hid (ch.out.trans (hq.mono ch.out.size))
    clear hq
    refine (kg.out _).mono ?_
    rintro e w2 ⟨xq, rfl, hX, -, hq⟩
    have hq0 := Lib.hid ((hq0.out.below hq).mono hq.size)
    have ch := Lib.hid (ch.out.trans (hq.mono ch.out.size))
    have HBX := Lib.hid (blk_lift hq HBX.out)
    clear hq
    rw [HBG.out]
    have hX := hX HBG.out
    have hX := Lib.hid hX
    go_wp2_with fail
    refine (kgood.out _ _ hq0.out).mono ?_
    rintro e w3 ⟨rfl, hq⟩
    have hX := Lib.hid (hX.out.kept (Kept.below hq))
    have hq0 := Lib.hid ((hq0.out.below hq).mono hq.size)
    have ch := Lib.hid (ch.out.trans (hq.mono ch.out.size))
    have HBX := Lib.hid (blk_lift hq HBX.out)
    clear hq
    cases bf with
    | false =>
      go_wp2_with fail
      refine (pads_any _).mono ?_
      rintro e wz ⟨rfl, hqz⟩
      go_wp2
      go_ret
      exact ⟨rfl, ch.out.trans (hqz.mono ch.out.size)⟩
    | true =>
      have hgp := goodB_parts HBF.out
      have VQ := Lib.hid (goodB_valid HBF.out (by omega) (by omega))
      have hlen := Lib.hid hgp.1
      have HXT := Lib.hid (show (toTr x).size ≤ 2000 by rw [growB_size HBG.out]; exact (growB_tree HBG.out).2)
      have HXT2 := Lib.hid (show (toTr x).size ≤ 2000000 by have := HXT.out; omega)
      have VN := Lib.hid (padL_valid VQ.out n (by have := hlen.out; have := HN.out; omega))
      have VM := Lib.hid (padL_valid VQ.out m (by have := hlen.out; have := HM.out; omega))
      have CN := Lib.hid (pad_code hgp.2.2 hgp.1 hgp.2.1 n HN.out)
      have CM := Lib.hid (pad_code hgp.2.2 hgp.1 hgp.2.1 m HM.out)
      have hfol := Lib.hid (follow_pad (q := q) n (t := toTr x) hgp.2.2 HXT2.out)
      have hzn := codeT_size VN.out
      have HZN := Lib.hid (show (codeT (padL q n)).size ≤ 2000000 by rw [hzn]; exact CN.out)
      have HZM := Lib.hid (show (codeT (padL q m)).size ≤ 2000000 by rw [codeT_size VM.out]; exact CM.out)
      have HLN := Lib.hid (show (padL q n).length ≤ 4000 by rw [padL_len]; have := hlen.out; have := HN.out; omega)
      have HLM := Lib.hid (show (padL q m).length ≤ 4000 by rw [padL_len]; have := hlen.out; have := HM.out; omega)
      have hqn4 := hgp.1
      rw [HQN.out] at hqn4
      have hEQ : Hid ((n = m ∧ padL q n = padL q m) ∨ (((n : Int) == (m : Int)) = false ∧ decide (codeT (padL q n) = codeT (padL q m)) = false)) := Lib.hid (by
        by_cases h : n = m
        · exact .inl ⟨h, by rw [h]⟩
        · refine .inr ⟨by rw [beq_eq_false_iff_ne]; omega, decide_eq_false fun e => h (padL_inj (p := q) (codeT_eq VN.out VM.out e))⟩)
      clear hgp hzn
      obtain ⟨c0, hcf⟩ := block_cells HBX.out
      have d0 := c0 0
      have d1 := c0 1
      simp only [List.getElem?_toArray, List.getElem?_cons_succ, List.getElem?_cons_zero] at d0 d1
      clear c0 hcf
      obtain ⟨⟨ra, hra, hrb, hrc, hrd⟩, ⟨sa, hsa, hsb, hsc, hsd⟩⟩ := HA.out
      have hia := HIA.out
      have hib := HIB.out
      have hnI : (0 : Int) ≤ n ∧ (n : Int) < 60 := by have := HN.out; omega
      have hmI : (0 : Int) ≤ m ∧ (m : Int) < 60 := by have := HM.out; omega
      go_wp2
      go_quiet (fail)
      clear hra hrb hrc hrd hsa hsb hsc hsd hia hib d0 d1
      have hq : Below w3.heap.size w3 (w3.drewN nq) := below_drewN (Below.refl _ _) nq
      obtain ⟨w4, hW⟩ : ∃ z, w3.drewN nq = z := ⟨_, rfl⟩
      rw [hW] at hq ⊢
      clear hW
      have hX := Lib.hid (hX.out.kept (Kept.below hq))
      have hq0 := Lib.hid ((hq0.out.below hq).mono hq.size)
      have ch := Lib.hid (ch.out.trans (hq.mono ch.out.size))
      clear hq
      go_wp2_with fail
      refine (ttwin_any _ q (by have := hlen.out; omega) _ hq0.out).mono ?_
      rintro e w5 ⟨t1a, t1c, rfl, hT1, hq⟩
      have hX := Lib.hid (hX.out.kept (Kept.below hq))
      have hq0 := Lib.hid ((hq0.out.below hq).mono hq.size)
      have ch := Lib.hid (ch.out.trans (hq.mono ch.out.size))
      clear hq
      have hT1 := Lib.hid (hT1.row (by have := hlen.out; omega))
      go_wp2_with fail
      refine (pad_ok _ q _ hT1.out n VQ.out (by have := HN.out; omega) (by have := hlen.out; have := HN.out; omega)).mono ?_
      rintro e w6 ⟨ea, ec, rfl, hE, hq⟩
      have hX := Lib.hid (hX.out.kept (Kept.below hq))
      have hq0 := Lib.hid ((hq0.out.below hq).mono hq.size)
      have hT1 := Lib.hid ((hT1.out.below hq).mono hq.size)
      have ch := Lib.hid (ch.out.trans (hq.mono ch.out.size))
      clear hq
      have hE := Lib.hid (hE.row (by have := HLN.out; omega))
      clear hT1
      go_wp2_with fail
      refine (ttwin_any _ q (by have := hlen.out; omega) _ hq0.out).mono ?_
      rintro e w7 ⟨t2a, t2c, rfl, hT2, hq⟩
      have hX := Lib.hid (hX.out.kept (Kept.below hq))
      have hq0 := Lib.hid ((hq0.out.below hq).mono hq.size)
      have hE := Lib.hid ((hE.out.below hq).mono hq.size)
      have ch := Lib.hid (ch.out.trans (hq.mono ch.out.size))
      clear hq
      have hT2 := Lib.hid (hT2.row (by have := hlen.out; omega))
      go_wp2_with fail
      refine (pad_ok _ q _ hT2.out m VQ.out (by have := HM.out; omega) (by have := hlen.out; have := HM.out; omega)).mono ?_
      rintro e w8 ⟨ra, rc, rfl, hR, hq⟩
      have hX := Lib.hid (hX.out.kept (Kept.below hq))
      have hq0 := Lib.hid ((hq0.out.below hq).mono hq.size)
      have hE := Lib.hid ((hE.out.below hq).mono hq.size)
      have hT2 := Lib.hid ((hT2.out.below hq).mono hq.size)
      have ch := Lib.hid (ch.out.trans (hq.mono ch.out.size))
      clear hq
      have hR := Lib.hid (hR.row (by have := HLM.out; omega))
      clear hT2
      obtain ⟨en, hen⟩ : ∃ k, (padL q n).length = k := ⟨_, rfl⟩
      obtain ⟨rn, hrn⟩ : ∃ k, (padL q m).length = k := ⟨_, rfl⟩
      rw [hen] at hE ⊢
      rw [hrn] at hR ⊢
      clear hen hrn
      go_wp2_with fail
      refine (twhole_any _ _ true VN.out _ hE.out).mono ?_
      rintro e w9 ⟨rfl, hq⟩
      have hX := Lib.hid (hX.out.kept (Kept.below hq))
      have hq0 := Lib.hid ((hq0.out.below hq).mono hq.size)
      have hE := Lib.hid ((hE.out.below hq).mono hq.size)
      have hR := Lib.hid ((hR.out.below hq).mono hq.size)
      have ch := Lib.hid (ch.out.trans (hq.mono ch.out.size))
      clear hq
      go_wp2_with fail
      refine (twhole_any _ _ true VM.out _ hR.out).mono ?_
      rintro e w10 ⟨rfl, hq⟩
      have hX := Lib.hid (hX.out.kept (Kept.below hq))
      have hq0 := Lib.hid ((hq0.out.below hq).mono hq.size)
      have hE := Lib.hid ((hE.out.below hq).mono hq.size)
      have hR := Lib.hid ((hR.out.below hq).mono hq.size)
      have ch := Lib.hid (ch.out.trans (hq.mono ch.out.size))
      clear hq
      go_wp2_with fail
      refine (tcode_any _ _ _ hE.out VN.out CN.out).mono ?_
      rintro e w11 ⟨cq, rfl, hC, hq⟩
      have hX := Lib.hid (hX.out.kept (Kept.below hq))
      have hq0 := Lib.hid ((hq0.out.below hq).mono hq.size)
      have hE := Lib.hid ((hE.out.below hq).mono hq.size)
      have hR := Lib.hid ((hR.out.below hq).mono hq.size)
      have ch := Lib.hid (ch.out.trans (hq.mono ch.out.size))
      clear hq
      have hC := Lib.hid hC
      go_wp2_with fail
      refine (tcode_any _ _ _ hR.out VM.out CM.out).mono ?_
      rintro e w12 ⟨dq, rfl, hD, hq⟩
      have hX := Lib.hid (hX.out.kept (Kept.below hq))
      have hC := Lib.hid (hC.out.kept (Kept.below hq))
      have hq0 := Lib.hid ((hq0.out.below hq).mono hq.size)
      have hE := Lib.hid ((hE.out.below hq).mono hq.size)
      have hR := Lib.hid ((hR.out.below hq).mono hq.size)
      have ch := Lib.hid (ch.out.trans (hq.mono ch.out.size))
      clear hq
      have hD := Lib.hid hD
      go_wp2_with fail
      refine (tequal_any _ _ _ _ _ hC.out hD.out (by have := HZN.out; omega) (by have := HZM.out; omega)).mono ?_
      rintro e w13 ⟨rfl, hq⟩
      have hX := Lib.hid (hX.out.kept (Kept.below hq))
      have hC := Lib.hid (hC.out.kept (Kept.below hq))
      have hD := Lib.hid (hD.out.kept (Kept.below hq))
      have hq0 := Lib.hid ((hq0.out.below hq).mono hq.size)
      have hE := Lib.hid ((hE.out.below hq).mono hq.size)
      have hR := Lib.hid ((hR.out.below hq).mono hq.size)
      have ch := Lib.hid (ch.out.trans (hq.mono ch.out.size))
      clear hq
      clear hC hD hR
      have HEE := hEQ
      clear HEE
      rcases hEQ.out with ⟨hnm, hee⟩ | ⟨hne, hdd⟩
      ·
        subst hnm
        clear hee
        rw [decide_eq_true rfl]
        cases hg : goF q 500 0 (startS (toTr x)) with
        | fuel s j =>
          have HG := Lib.hid hg
          have hnd := Lib.hid (show NotD (padL q n) (startS (toTr x)) 500 from notD_less (K' := 500 + n) (fun s2 m2 e2 => by
            rcases hfol.out 500 with ⟨s3, s4, m3, f1, _⟩ | ⟨s3, f1, ⟨s4, f2⟩ | f2⟩ | ⟨f1, _⟩
            · rw [hg] at f1; cases f1
            · rw [f2] at e2; cases e2
            · rw [f2] at e2; cases e2
            · rw [hg] at f1; cases f1) (by omega))
          clear hg
          go_wp2_with fail
          refine (tplay_fuel 500 _ (by omega) (by omega) HG.out hq0.out VQ.out hX.out HXT2.out).mono ?_
          rintro e w14 ⟨yq, yk, rfl, hq⟩
          have hX := Lib.hid (hX.out.kept (Kept.below hq))
          have hq0 := Lib.hid ((hq0.out.below hq).mono hq.size)
          have hE := Lib.hid ((hE.out.below hq).mono hq.size)
          have ch := Lib.hid (ch.out.trans (hq.mono ch.out.size))
          clear hq
          go_wp2_with fail
          refine (tlasts_ok 500 _ (by omega) (by omega) hE.out VN.out hX.out HXT2.out hnd.out).mono ?_
          rintro e w15 ⟨rfl, hq⟩
          have hX := Lib.hid (hX.out.kept (Kept.below hq))
          have hq0 := Lib.hid ((hq0.out.below hq).mono hq.size)
          have hE := Lib.hid ((hE.out.below hq).mono hq.size)
          have ch := Lib.hid (ch.out.trans (hq.mono ch.out.size))
          clear hq
          go_wp2_with fail
          refine (tcode_any _ _ _ hE.out VN.out CN.out).mono ?_
          rintro e w16 ⟨cq, rfl, hC, hq⟩
          have hX := Lib.hid (hX.out.kept (Kept.below hq))
          have hq0 := Lib.hid ((hq0.out.below hq).mono hq.size)
          have hE := Lib.hid ((hE.out.below hq).mono hq.size)
          have ch := Lib.hid (ch.out.trans (hq.mono ch.out.size))
          clear hq
          have hC := Lib.hid hC
          go_wp2_with fail
          refine (eqB (tsize_any _ _ _ hC.out)).mono ?_
          rintro e w17 ⟨rfl, hq⟩
          have hX := Lib.hid (hX.out.kept (Kept.below hq))
          have hC := Lib.hid (hC.out.kept (Kept.below hq))
          have hq0 := Lib.hid ((hq0.out.below hq).mono hq.size)
          have hE := Lib.hid ((hE.out.below hq).mono hq.size)
          have ch := Lib.hid (ch.out.trans (hq.mono ch.out.size))
          clear hq
          by_cases hsz : 60 < (codeT (padL q n)).size
          ·
            have hsI : (60 : Int) < (codeT (padL q n)).size := by omega
            go_wp2_with fail
            refine (pads_any _).mono ?_
            rintro e wz ⟨rfl, hqz⟩
            go_wp2
            go_ret
            exact ⟨rfl, ch.out.trans (hqz.mono ch.out.size)⟩
          ·
            have hsI : ¬ (60 : Int) < (codeT (padL q n)).size := by omega
            have hpp := Lib.hid (show (codeT (padL q n)).pairs ≤ 30 by have := (codeT (padL q n)).size_pairs; omega)
            go_wp2_with fail
            refine (ttext_any _ _ _ hC.out (by have := HZN.out; omega)).mono ?_
            rintro e w18 ⟨rfl, hq⟩
            have hX := Lib.hid (hX.out.kept (Kept.below hq))
            have hC := Lib.hid (hC.out.kept (Kept.below hq))
            have hq0 := Lib.hid ((hq0.out.below hq).mono hq.size)
            have hE := Lib.hid ((hE.out.below hq).mono hq.size)
            have ch := Lib.hid (ch.out.trans (hq.mono ch.out.size))
            clear hq
            go_wp2_with fail
            refine (rank_ok _ hpp.out _).mono ?_
            rintro e w19 ⟨rfl, hq⟩
            have hX := Lib.hid (hX.out.kept (Kept.below hq))
            have hC := Lib.hid (hC.out.kept (Kept.below hq))
            have hq0 := Lib.hid ((hq0.out.below hq).mono hq.size)
            have hE := Lib.hid ((hE.out.below hq).mono hq.size)
            have ch := Lib.hid (ch.out.trans (hq.mono ch.out.size))
            clear hq
            go_wp2_with fail
            refine (unrank_ok _ (by have h1 := trk_lt (codeT (padL q n)); have h2 := wsum_mono (show (codeT (padL q n)).pairs + 1 ≤ 31 by have := hpp.out; omega); omega) _).mono ?_
            rintro e w20 ⟨rfl, hq⟩
            have hX := Lib.hid (hX.out.kept (Kept.below hq))
            have hC := Lib.hid (hC.out.kept (Kept.below hq))
            have hq0 := Lib.hid ((hq0.out.below hq).mono hq.size)
            have hE := Lib.hid ((hE.out.below hq).mono hq.size)
            have ch := Lib.hid (ch.out.trans (hq.mono ch.out.size))
            clear hq
            rw [seq_trk]
            go_wp2_with fail
            refine (ttext_any _ _ _ hC.out (by have := HZN.out; omega)).mono ?_
            rintro e w21 ⟨rfl, hq⟩
            have hX := Lib.hid (hX.out.kept (Kept.below hq))
            have hC := Lib.hid (hC.out.kept (Kept.below hq))
            have hq0 := Lib.hid ((hq0.out.below hq).mono hq.size)
            have hE := Lib.hid ((hE.out.below hq).mono hq.size)
            have ch := Lib.hid (ch.out.trans (hq.mono ch.out.size))
            clear hq
            generalize TS (codeT (padL q n)) = ts at *
            generalize ((trk (codeT (padL q n)) : Nat) : Int) = tr at *
            go_wp2_with fail
            refine (pads_any _).mono ?_
            rintro e wz ⟨rfl, hqz⟩
            go_wp2
            go_ret
            exact ⟨rfl, ch.out.trans (hqz.mono ch.out.size)⟩
        | big =>
          have HG := Lib.hid hg
          clear hg
          go_wp2_with fail
          refine (tplay_big 500 _ (by omega) (by omega) HG.out hq0.out VQ.out hX.out HXT2.out).mono ?_
          rintro e w14 ⟨yq, yk, rfl, hq⟩
          have hX := Lib.hid (hX.out.kept (Kept.below hq))
          have hq0 := Lib.hid ((hq0.out.below hq).mono hq.size)
          have hE := Lib.hid ((hE.out.below hq).mono hq.size)
          have ch := Lib.hid (ch.out.trans (hq.mono ch.out.size))
          clear hq
          go_wp2_with fail
          refine (tcode_any _ _ _ hE.out VN.out CN.out).mono ?_
          rintro e w15 ⟨cq, rfl, hC, hq⟩
          have hX := Lib.hid (hX.out.kept (Kept.below hq))
          have hq0 := Lib.hid ((hq0.out.below hq).mono hq.size)
          have hE := Lib.hid ((hE.out.below hq).mono hq.size)
          have ch := Lib.hid (ch.out.trans (hq.mono ch.out.size))
          clear hq
          have hC := Lib.hid hC
          go_wp2_with fail
          refine (eqB (tsize_any _ _ _ hC.out)).mono ?_
          rintro e w16 ⟨rfl, hq⟩
          have hX := Lib.hid (hX.out.kept (Kept.below hq))
          have hC := Lib.hid (hC.out.kept (Kept.below hq))
          have hq0 := Lib.hid ((hq0.out.below hq).mono hq.size)
          have hE := Lib.hid ((hE.out.below hq).mono hq.size)
          have ch := Lib.hid (ch.out.trans (hq.mono ch.out.size))
          clear hq
          by_cases hsz : 60 < (codeT (padL q n)).size
          ·
            have hsI : (60 : Int) < (codeT (padL q n)).size := by omega
            go_wp2_with fail
            refine (pads_any _).mono ?_
            rintro e wz ⟨rfl, hqz⟩
            go_wp2
            go_ret
            exact ⟨rfl, ch.out.trans (hqz.mono ch.out.size)⟩
          ·
            have hsI : ¬ (60 : Int) < (codeT (padL q n)).size := by omega
            have hpp := Lib.hid (show (codeT (padL q n)).pairs ≤ 30 by have := (codeT (padL q n)).size_pairs; omega)
            go_wp2_with fail
            refine (ttext_any _ _ _ hC.out (by have := HZN.out; omega)).mono ?_
            rintro e w17 ⟨rfl, hq⟩
            have hX := Lib.hid (hX.out.kept (Kept.below hq))
            have hC := Lib.hid (hC.out.kept (Kept.below hq))
            have hq0 := Lib.hid ((hq0.out.below hq).mono hq.size)
            have hE := Lib.hid ((hE.out.below hq).mono hq.size)
            have ch := Lib.hid (ch.out.trans (hq.mono ch.out.size))
            clear hq
            go_wp2_with fail
            refine (rank_ok _ hpp.out _).mono ?_
            rintro e w18 ⟨rfl, hq⟩
            have hX := Lib.hid (hX.out.kept (Kept.below hq))
            have hC := Lib.hid (hC.out.kept (Kept.below hq))
            have hq0 := Lib.hid ((hq0.out.below hq).mono hq.size)
            have hE := Lib.hid ((hE.out.below hq).mono hq.size)
            have ch := Lib.hid (ch.out.trans (hq.mono ch.out.size))
            clear hq
            go_wp2_with fail
            refine (unrank_ok _ (by have h1 := trk_lt (codeT (padL q n)); have h2 := wsum_mono (show (codeT (padL q n)).pairs + 1 ≤ 31 by have := hpp.out; omega); omega) _).mono ?_
            rintro e w19 ⟨rfl, hq⟩
            have hX := Lib.hid (hX.out.kept (Kept.below hq))
            have hC := Lib.hid (hC.out.kept (Kept.below hq))
            have hq0 := Lib.hid ((hq0.out.below hq).mono hq.size)
            have hE := Lib.hid ((hE.out.below hq).mono hq.size)
            have ch := Lib.hid (ch.out.trans (hq.mono ch.out.size))
            clear hq
            rw [seq_trk]
            go_wp2_with fail
            refine (ttext_any _ _ _ hC.out (by have := HZN.out; omega)).mono ?_
            rintro e w20 ⟨rfl, hq⟩
            have hX := Lib.hid (hX.out.kept (Kept.below hq))
            have hC := Lib.hid (hC.out.kept (Kept.below hq))
            have hq0 := Lib.hid ((hq0.out.below hq).mono hq.size)
            have hE := Lib.hid ((hE.out.below hq).mono hq.size)
            have ch := Lib.hid (ch.out.trans (hq.mono ch.out.size))
            clear hq
            generalize TS (codeT (padL q n)) = ts at *
            generalize ((trk (codeT (padL q n)) : Nat) : Int) = tr at *
            go_wp2_with fail
            refine (pads_any _).mono ?_
            rintro e wz ⟨rfl, hqz⟩
            go_wp2
            go_ret
            exact ⟨rfl, ch.out.trans (hqz.mono ch.out.size)⟩
        | done s j =>
          have hm0 := goF_steps hg
          have hjI : (j : Int) ≤ 500 := by omega
          have HG := Lib.hid hg
          have hex := Lib.hid (show ∃ s2, goF (padL q n) (j + n) 0 (startS (toTr x)) = .done s2 (j + n) ∧ getR s2.regs 0 = getR s.regs 0 from by
            rcases hfol.out 500 with ⟨s3, s4, m3, f1, _, f2, f3⟩ | ⟨s3, f1, _⟩ | ⟨f1, _⟩
            · rw [hg] at f1
              injection f1 with f4 f5
              subst f4; subst f5
              exact ⟨s4, goF_exact f2, f3⟩
            · rw [hg] at f1; cases f1
            · rw [hg] at f1; cases f1)
          clear hg hm0
          go_wp2_with fail
          refine (tplay_done 500 _ (by omega) (by omega) HG.out hq0.out VQ.out hX.out HXT2.out).mono ?_
          rintro e w14 ⟨yq, rfl, hY, hq⟩
          have hX := Lib.hid (hX.out.kept (Kept.below hq))
          have hq0 := Lib.hid ((hq0.out.below hq).mono hq.size)
          have hE := Lib.hid ((hE.out.below hq).mono hq.size)
          have ch := Lib.hid (ch.out.trans (hq.mono ch.out.size))
          clear hq
          have hY := Lib.hid hY
          go_wp2_with fail
          refine (treturns_ok (j + n) _ (by omega) (by have := HN.out; omega) hE.out VN.out hX.out hY.out HXT2.out hex.out).mono ?_
          rintro e w15 ⟨rfl, hq⟩
          have hX := Lib.hid (hX.out.kept (Kept.below hq))
          have hY := Lib.hid (hY.out.kept (Kept.below hq))
          have hq0 := Lib.hid ((hq0.out.below hq).mono hq.size)
          have hE := Lib.hid ((hE.out.below hq).mono hq.size)
          have ch := Lib.hid (ch.out.trans (hq.mono ch.out.size))
          clear hq
          go_wp2_with fail
          refine (tcode_any _ _ _ hE.out VN.out CN.out).mono ?_
          rintro e w16 ⟨cq, rfl, hC, hq⟩
          have hX := Lib.hid (hX.out.kept (Kept.below hq))
          have hY := Lib.hid (hY.out.kept (Kept.below hq))
          have hq0 := Lib.hid ((hq0.out.below hq).mono hq.size)
          have hE := Lib.hid ((hE.out.below hq).mono hq.size)
          have ch := Lib.hid (ch.out.trans (hq.mono ch.out.size))
          clear hq
          have hC := Lib.hid hC
          go_wp2_with fail
          refine (eqB (tsize_any _ _ _ hC.out)).mono ?_
          rintro e w17 ⟨rfl, hq⟩
          have hX := Lib.hid (hX.out.kept (Kept.below hq))
          have hY := Lib.hid (hY.out.kept (Kept.below hq))
          have hC := Lib.hid (hC.out.kept (Kept.below hq))
          have hq0 := Lib.hid ((hq0.out.below hq).mono hq.size)
          have hE := Lib.hid ((hE.out.below hq).mono hq.size)
          have ch := Lib.hid (ch.out.trans (hq.mono ch.out.size))
          clear hq
          by_cases hsz : 60 < (codeT (padL q n)).size
          ·
            have hsI : (60 : Int) < (codeT (padL q n)).size := by omega
            go_wp2_with fail
            refine (pads_any _).mono ?_
            rintro e wz ⟨rfl, hqz⟩
            go_wp2
            go_ret
            exact ⟨rfl, ch.out.trans (hqz.mono ch.out.size)⟩
          ·
            have hsI : ¬ (60 : Int) < (codeT (padL q n)).size := by omega
            have hpp := Lib.hid (show (codeT (padL q n)).pairs ≤ 30 by have := (codeT (padL q n)).size_pairs; omega)
            go_wp2_with fail
            refine (ttext_any _ _ _ hC.out (by have := HZN.out; omega)).mono ?_
            rintro e w18 ⟨rfl, hq⟩
            have hX := Lib.hid (hX.out.kept (Kept.below hq))
            have hY := Lib.hid (hY.out.kept (Kept.below hq))
            have hC := Lib.hid (hC.out.kept (Kept.below hq))
            have hq0 := Lib.hid ((hq0.out.below hq).mono hq.size)
            have hE := Lib.hid ((hE.out.below hq).mono hq.size)
            have ch := Lib.hid (ch.out.trans (hq.mono ch.out.size))
            clear hq
            go_wp2_with fail
            refine (rank_ok _ hpp.out _).mono ?_
            rintro e w19 ⟨rfl, hq⟩
            have hX := Lib.hid (hX.out.kept (Kept.below hq))
            have hY := Lib.hid (hY.out.kept (Kept.below hq))
            have hC := Lib.hid (hC.out.kept (Kept.below hq))
            have hq0 := Lib.hid ((hq0.out.below hq).mono hq.size)
            have hE := Lib.hid ((hE.out.below hq).mono hq.size)
            have ch := Lib.hid (ch.out.trans (hq.mono ch.out.size))
            clear hq
            go_wp2_with fail
            refine (unrank_ok _ (by have h1 := trk_lt (codeT (padL q n)); have h2 := wsum_mono (show (codeT (padL q n)).pairs + 1 ≤ 31 by have := hpp.out; omega); omega) _).mono ?_
            rintro e w20 ⟨rfl, hq⟩
            have hX := Lib.hid (hX.out.kept (Kept.below hq))
            have hY := Lib.hid (hY.out.kept (Kept.below hq))
            have hC := Lib.hid (hC.out.kept (Kept.below hq))
            have hq0 := Lib.hid ((hq0.out.below hq).mono hq.size)
            have hE := Lib.hid ((hE.out.below hq).mono hq.size)
            have ch := Lib.hid (ch.out.trans (hq.mono ch.out.size))
            clear hq
            rw [seq_trk]
            go_wp2_with fail
            refine (ttext_any _ _ _ hC.out (by have := HZN.out; omega)).mono ?_
            rintro e w21 ⟨rfl, hq⟩
            have hX := Lib.hid (hX.out.kept (Kept.below hq))
            have hY := Lib.hid (hY.out.kept (Kept.below hq))
            have hC := Lib.hid (hC.out.kept (Kept.below hq))
            have hq0 := Lib.hid ((hq0.out.below hq).mono hq.size)
            have hE := Lib.hid ((hE.out.below hq).mono hq.size)
            have ch := Lib.hid (ch.out.trans (hq.mono ch.out.size))
            clear hq
            generalize TS (codeT (padL q n)) = ts at *
            generalize ((trk (codeT (padL q n)) : Nat) : Int) = tr at *
            go_wp2_with fail
            refine (pads_any _).mono ?_
            rintro e wz ⟨rfl, hqz⟩
            go_wp2
            go_ret
            exact ⟨rfl, ch.out.trans (hqz.mono ch.out.size)⟩
      ·
        rw [hdd]
        clear hdd
        cases hg : goF q 500 0 (startS (toTr x)) with
        | fuel s j =>
          have HG := Lib.hid hg
          have hnd := Lib.hid (show NotD (padL q n) (startS (toTr x)) 500 from notD_less (K' := 500 + n) (fun s2 m2 e2 => by
            rcases hfol.out 500 with ⟨s3, s4, m3, f1, _⟩ | ⟨s3, f1, ⟨s4, f2⟩ | f2⟩ | ⟨f1, _⟩
            · rw [hg] at f1; cases f1
            · rw [f2] at e2; cases e2
            · rw [f2] at e2; cases e2
            · rw [hg] at f1; cases f1) (by omega))
          clear hg
          go_wp2_with fail
          refine (tplay_fuel 500 _ (by omega) (by omega) HG.out hq0.out VQ.out hX.out HXT2.out).mono ?_
          rintro e w14 ⟨yq, yk, rfl, hq⟩
          have hX := Lib.hid (hX.out.kept (Kept.below hq))
          have hq0 := Lib.hid ((hq0.out.below hq).mono hq.size)
          have hE := Lib.hid ((hE.out.below hq).mono hq.size)
          have ch := Lib.hid (ch.out.trans (hq.mono ch.out.size))
          clear hq
          go_wp2_with fail
          refine (tlasts_ok 500 _ (by omega) (by omega) hE.out VN.out hX.out HXT2.out hnd.out).mono ?_
          rintro e w15 ⟨rfl, hq⟩
          have hX := Lib.hid (hX.out.kept (Kept.below hq))
          have hq0 := Lib.hid ((hq0.out.below hq).mono hq.size)
          have hE := Lib.hid ((hE.out.below hq).mono hq.size)
          have ch := Lib.hid (ch.out.trans (hq.mono ch.out.size))
          clear hq
          go_wp2_with fail
          refine (tcode_any _ _ _ hE.out VN.out CN.out).mono ?_
          rintro e w16 ⟨cq, rfl, hC, hq⟩
          have hX := Lib.hid (hX.out.kept (Kept.below hq))
          have hq0 := Lib.hid ((hq0.out.below hq).mono hq.size)
          have hE := Lib.hid ((hE.out.below hq).mono hq.size)
          have ch := Lib.hid (ch.out.trans (hq.mono ch.out.size))
          clear hq
          have hC := Lib.hid hC
          go_wp2_with fail
          refine (eqB (tsize_any _ _ _ hC.out)).mono ?_
          rintro e w17 ⟨rfl, hq⟩
          have hX := Lib.hid (hX.out.kept (Kept.below hq))
          have hC := Lib.hid (hC.out.kept (Kept.below hq))
          have hq0 := Lib.hid ((hq0.out.below hq).mono hq.size)
          have hE := Lib.hid ((hE.out.below hq).mono hq.size)
          have ch := Lib.hid (ch.out.trans (hq.mono ch.out.size))
          clear hq
          by_cases hsz : 60 < (codeT (padL q n)).size
          ·
            have hsI : (60 : Int) < (codeT (padL q n)).size := by omega
            go_wp2_with fail
            refine (pads_any _).mono ?_
            rintro e wz ⟨rfl, hqz⟩
            go_wp2
            go_ret
            exact ⟨rfl, ch.out.trans (hqz.mono ch.out.size)⟩
          ·
            have hsI : ¬ (60 : Int) < (codeT (padL q n)).size := by omega
            have hpp := Lib.hid (show (codeT (padL q n)).pairs ≤ 30 by have := (codeT (padL q n)).size_pairs; omega)
            go_wp2_with fail
            refine (ttext_any _ _ _ hC.out (by have := HZN.out; omega)).mono ?_
            rintro e w18 ⟨rfl, hq⟩
            have hX := Lib.hid (hX.out.kept (Kept.below hq))
            have hC := Lib.hid (hC.out.kept (Kept.below hq))
            have hq0 := Lib.hid ((hq0.out.below hq).mono hq.size)
            have hE := Lib.hid ((hE.out.below hq).mono hq.size)
            have ch := Lib.hid (ch.out.trans (hq.mono ch.out.size))
            clear hq
            go_wp2_with fail
            refine (rank_ok _ hpp.out _).mono ?_
            rintro e w19 ⟨rfl, hq⟩
            have hX := Lib.hid (hX.out.kept (Kept.below hq))
            have hC := Lib.hid (hC.out.kept (Kept.below hq))
            have hq0 := Lib.hid ((hq0.out.below hq).mono hq.size)
            have hE := Lib.hid ((hE.out.below hq).mono hq.size)
            have ch := Lib.hid (ch.out.trans (hq.mono ch.out.size))
            clear hq
            go_wp2_with fail
            refine (unrank_ok _ (by have h1 := trk_lt (codeT (padL q n)); have h2 := wsum_mono (show (codeT (padL q n)).pairs + 1 ≤ 31 by have := hpp.out; omega); omega) _).mono ?_
            rintro e w20 ⟨rfl, hq⟩
            have hX := Lib.hid (hX.out.kept (Kept.below hq))
            have hC := Lib.hid (hC.out.kept (Kept.below hq))
            have hq0 := Lib.hid ((hq0.out.below hq).mono hq.size)
            have hE := Lib.hid ((hE.out.below hq).mono hq.size)
            have ch := Lib.hid (ch.out.trans (hq.mono ch.out.size))
            clear hq
            rw [seq_trk]
            go_wp2_with fail
            refine (ttext_any _ _ _ hC.out (by have := HZN.out; omega)).mono ?_
            rintro e w21 ⟨rfl, hq⟩
            have hX := Lib.hid (hX.out.kept (Kept.below hq))
            have hC := Lib.hid (hC.out.kept (Kept.below hq))
            have hq0 := Lib.hid ((hq0.out.below hq).mono hq.size)
            have hE := Lib.hid ((hE.out.below hq).mono hq.size)
            have ch := Lib.hid (ch.out.trans (hq.mono ch.out.size))
            clear hq
            generalize TS (codeT (padL q n)) = ts at *
            generalize ((trk (codeT (padL q n)) : Nat) : Int) = tr at *
            go_wp2_with fail
            refine (pads_any _).mono ?_
            rintro e wz ⟨rfl, hqz⟩
            go_wp2
            go_ret
            exact ⟨rfl, ch.out.trans (hqz.mono ch.out.size)⟩
        | big =>
          have HG := Lib.hid hg
          clear hg
          go_wp2_with fail
          refine (tplay_big 500 _ (by omega) (by omega) HG.out hq0.out VQ.out hX.out HXT2.out).mono ?_
          rintro e w14 ⟨yq, yk, rfl, hq⟩
          have hX := Lib.hid (hX.out.kept (Kept.below hq))
          have hq0 := Lib.hid ((hq0.out.below hq).mono hq.size)
          have hE := Lib.hid ((hE.out.below hq).mono hq.size)
          have ch := Lib.hid (ch.out.trans (hq.mono ch.out.size))
          clear hq
          go_wp2_with fail
          refine (tcode_any _ _ _ hE.out VN.out CN.out).mono ?_
          rintro e w15 ⟨cq, rfl, hC, hq⟩
          have hX := Lib.hid (hX.out.kept (Kept.below hq))
          have hq0 := Lib.hid ((hq0.out.below hq).mono hq.size)
          have hE := Lib.hid ((hE.out.below hq).mono hq.size)
          have ch := Lib.hid (ch.out.trans (hq.mono ch.out.size))
          clear hq
          have hC := Lib.hid hC
          go_wp2_with fail
          refine (eqB (tsize_any _ _ _ hC.out)).mono ?_
          rintro e w16 ⟨rfl, hq⟩
          have hX := Lib.hid (hX.out.kept (Kept.below hq))
          have hC := Lib.hid (hC.out.kept (Kept.below hq))
          have hq0 := Lib.hid ((hq0.out.below hq).mono hq.size)
          have hE := Lib.hid ((hE.out.below hq).mono hq.size)
          have ch := Lib.hid (ch.out.trans (hq.mono ch.out.size))
          clear hq
          by_cases hsz : 60 < (codeT (padL q n)).size
          ·
            have hsI : (60 : Int) < (codeT (padL q n)).size := by omega
            go_wp2_with fail
            refine (pads_any _).mono ?_
            rintro e wz ⟨rfl, hqz⟩
            go_wp2
            go_ret
            exact ⟨rfl, ch.out.trans (hqz.mono ch.out.size)⟩
          ·
            have hsI : ¬ (60 : Int) < (codeT (padL q n)).size := by omega
            have hpp := Lib.hid (show (codeT (padL q n)).pairs ≤ 30 by have := (codeT (padL q n)).size_pairs; omega)
            go_wp2_with fail
            refine (ttext_any _ _ _ hC.out (by have := HZN.out; omega)).mono ?_
            rintro e w17 ⟨rfl, hq⟩
            have hX := Lib.hid (hX.out.kept (Kept.below hq))
            have hC := Lib.hid (hC.out.kept (Kept.below hq))
            have hq0 := Lib.hid ((hq0.out.below hq).mono hq.size)
            have hE := Lib.hid ((hE.out.below hq).mono hq.size)
            have ch := Lib.hid (ch.out.trans (hq.mono ch.out.size))
            clear hq
            go_wp2_with fail
            refine (rank_ok _ hpp.out _).mono ?_
            rintro e w18 ⟨rfl, hq⟩
            have hX := Lib.hid (hX.out.kept (Kept.below hq))
            have hC := Lib.hid (hC.out.kept (Kept.below hq))
            have hq0 := Lib.hid ((hq0.out.below hq).mono hq.size)
            have hE := Lib.hid ((hE.out.below hq).mono hq.size)
            have ch := Lib.hid (ch.out.trans (hq.mono ch.out.size))
            clear hq
            go_wp2_with fail
            refine (unrank_ok _ (by have h1 := trk_lt (codeT (padL q n)); have h2 := wsum_mono (show (codeT (padL q n)).pairs + 1 ≤ 31 by have := hpp.out; omega); omega) _).mono ?_
            rintro e w19 ⟨rfl, hq⟩
            have hX := Lib.hid (hX.out.kept (Kept.below hq))
            have hC := Lib.hid (hC.out.kept (Kept.below hq))
            have hq0 := Lib.hid ((hq0.out.below hq).mono hq.size)
            have hE := Lib.hid ((hE.out.below hq).mono hq.size)
            have ch := Lib.hid (ch.out.trans (hq.mono ch.out.size))
            clear hq
            rw [seq_trk]
            go_wp2_with fail
            refine (ttext_any _ _ _ hC.out (by have := HZN.out; omega)).mono ?_
            rintro e w20 ⟨rfl, hq⟩
            have hX := Lib.hid (hX.out.kept (Kept.below hq))
            have hC := Lib.hid (hC.out.kept (Kept.below hq))
            have hq0 := Lib.hid ((hq0.out.below hq).mono hq.size)
            have hE := Lib.hid ((hE.out.below hq).mono hq.size)
            have ch := Lib.hid (ch.out.trans (hq.mono ch.out.size))
            clear hq
            generalize TS (codeT (padL q n)) = ts at *
            generalize ((trk (codeT (padL q n)) : Nat) : Int) = tr at *
            go_wp2_with fail
            refine (pads_any _).mono ?_
            rintro e wz ⟨rfl, hqz⟩
            go_wp2
            go_ret
            exact ⟨rfl, ch.out.trans (hqz.mono ch.out.size)⟩
        | done s j =>
          have hm0 := goF_steps hg
          have hjI : (j : Int) ≤ 500 := by omega
          have HG := Lib.hid hg
          have hex := Lib.hid (show ∃ s2, goF (padL q n) (j + n) 0 (startS (toTr x)) = .done s2 (j + n) ∧ getR s2.regs 0 = getR s.regs 0 from by
            rcases hfol.out 500 with ⟨s3, s4, m3, f1, _, f2, f3⟩ | ⟨s3, f1, _⟩ | ⟨f1, _⟩
            · rw [hg] at f1
              injection f1 with f4 f5
              subst f4; subst f5
              exact ⟨s4, goF_exact f2, f3⟩
            · rw [hg] at f1; cases f1
            · rw [hg] at f1; cases f1)
          clear hg hm0
          go_wp2_with fail
          refine (tplay_done 500 _ (by omega) (by omega) HG.out hq0.out VQ.out hX.out HXT2.out).mono ?_
          rintro e w14 ⟨yq, rfl, hY, hq⟩
          have hX := Lib.hid (hX.out.kept (Kept.below hq))
          have hq0 := Lib.hid ((hq0.out.below hq).mono hq.size)
          have hE := Lib.hid ((hE.out.below hq).mono hq.size)
          have ch := Lib.hid (ch.out.trans (hq.mono ch.out.size))
          clear hq
          have hY := Lib.hid hY
          go_wp2_with fail
          refine (treturns_ok (j + n) _ (by omega) (by have := HN.out; omega) hE.out VN.out hX.out hY.out HXT2.out hex.out).mono ?_
          rintro e w15 ⟨rfl, hq⟩
          have hX := Lib.hid (hX.out.kept (Kept.below hq))
          have hY := Lib.hid (hY.out.kept (Kept.below hq))
          have hq0 := Lib.hid ((hq0.out.below hq).mono hq.size)
          have hE := Lib.hid ((hE.out.below hq).mono hq.size)
          have ch := Lib.hid (ch.out.trans (hq.mono ch.out.size))
          clear hq
          go_wp2_with fail
          refine (tcode_any _ _ _ hE.out VN.out CN.out).mono ?_
          rintro e w16 ⟨cq, rfl, hC, hq⟩
          have hX := Lib.hid (hX.out.kept (Kept.below hq))
          have hY := Lib.hid (hY.out.kept (Kept.below hq))
          have hq0 := Lib.hid ((hq0.out.below hq).mono hq.size)
          have hE := Lib.hid ((hE.out.below hq).mono hq.size)
          have ch := Lib.hid (ch.out.trans (hq.mono ch.out.size))
          clear hq
          have hC := Lib.hid hC
          go_wp2_with fail
          refine (eqB (tsize_any _ _ _ hC.out)).mono ?_
          rintro e w17 ⟨rfl, hq⟩
          have hX := Lib.hid (hX.out.kept (Kept.below hq))
          have hY := Lib.hid (hY.out.kept (Kept.below hq))
          have hC := Lib.hid (hC.out.kept (Kept.below hq))
          have hq0 := Lib.hid ((hq0.out.below hq).mono hq.size)
          have hE := Lib.hid ((hE.out.below hq).mono hq.size)
          have ch := Lib.hid (ch.out.trans (hq.mono ch.out.size))
          clear hq
          by_cases hsz : 60 < (codeT (padL q n)).size
          ·
            have hsI : (60 : Int) < (codeT (padL q n)).size := by omega
            go_wp2_with fail
            refine (pads_any _).mono ?_
            rintro e wz ⟨rfl, hqz⟩
            go_wp2
            go_ret
            exact ⟨rfl, ch.out.trans (hqz.mono ch.out.size)⟩
          ·
            have hsI : ¬ (60 : Int) < (codeT (padL q n)).size := by omega
            have hpp := Lib.hid (show (codeT (padL q n)).pairs ≤ 30 by have := (codeT (padL q n)).size_pairs; omega)
            go_wp2_with fail
            refine (ttext_any _ _ _ hC.out (by have := HZN.out; omega)).mono ?_
            rintro e w18 ⟨rfl, hq⟩
            have hX := Lib.hid (hX.out.kept (Kept.below hq))
            have hY := Lib.hid (hY.out.kept (Kept.below hq))
            have hC := Lib.hid (hC.out.kept (Kept.below hq))
            have hq0 := Lib.hid ((hq0.out.below hq).mono hq.size)
            have hE := Lib.hid ((hE.out.below hq).mono hq.size)
            have ch := Lib.hid (ch.out.trans (hq.mono ch.out.size))
            clear hq
            go_wp2_with fail
            refine (rank_ok _ hpp.out _).mono ?_
            rintro e w19 ⟨rfl, hq⟩
            have hX := Lib.hid (hX.out.kept (Kept.below hq))
            have hY := Lib.hid (hY.out.kept (Kept.below hq))
            have hC := Lib.hid (hC.out.kept (Kept.below hq))
            have hq0 := Lib.hid ((hq0.out.below hq).mono hq.size)
            have hE := Lib.hid ((hE.out.below hq).mono hq.size)
            have ch := Lib.hid (ch.out.trans (hq.mono ch.out.size))
            clear hq
            go_wp2_with fail
            refine (unrank_ok _ (by have h1 := trk_lt (codeT (padL q n)); have h2 := wsum_mono (show (codeT (padL q n)).pairs + 1 ≤ 31 by have := hpp.out; omega); omega) _).mono ?_
            rintro e w20 ⟨rfl, hq⟩
            have hX := Lib.hid (hX.out.kept (Kept.below hq))
            have hY := Lib.hid (hY.out.kept (Kept.below hq))
            have hC := Lib.hid (hC.out.kept (Kept.below hq))
            have hq0 := Lib.hid ((hq0.out.below hq).mono hq.size)
            have hE := Lib.hid ((hE.out.below hq).mono hq.size)
            have ch := Lib.hid (ch.out.trans (hq.mono ch.out.size))
            clear hq
            rw [seq_trk]
            go_wp2_with fail
            refine (ttext_any _ _ _ hC.out (by have := HZN.out; omega)).mono ?_
            rintro e w21 ⟨rfl, hq⟩
            have hX := Lib.hid (hX.out.kept (Kept.below hq))
            have hY := Lib.hid (hY.out.kept (Kept.below hq))
            have hC := Lib.hid (hC.out.kept (Kept.below hq))
            have hq0 := Lib.hid ((hq0.out.below hq).mono hq.size)
            have hE := Lib.hid ((hE.out.below hq).mono hq.size)
            have ch := Lib.hid (ch.out.trans (hq.mono ch.out.size))
            clear hq
            generalize TS (codeT (padL q n)) = ts at *
            generalize ((trk (codeT (padL q n)) : Nat) : Int) = tr at *
            go_wp2_with fail
            refine (pads_any _).mono ?_
            rintro e wz ⟨rfl, hqz⟩
            go_wp2
            go_ret
            exact ⟨rfl, ch.out.trans (hqz.mono ch.out.size)⟩
end Go.Proofs.Ytdjbcmfjlfkcjaa


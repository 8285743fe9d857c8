/- narcissusref10: least, Next. -/
import Derived.Test.YtdjbcmfjlfkcjaaOrdR3
import Derived.Test.YtdjbcmfjlfkcjaaMB4
namespace Go.Proofs.Ytdjbcmfjlfkcjaa
open Go.RowKit

theorem rep10_snoc (k : Nat) : rep10 k ++ [49, 48] = rep10 (k + 1) := (rep10_succ k).symm
theorem repl_snoc (i : Nat) : List.replicate i (48 : UInt8) ++ [48] = List.replicate (i + 1) 48 := by
  rw [← List.replicate_succ']
theorem lst_all (k n : Nat) : List.replicate n 48 ++ rep10 k ++ [48] = lst k (n + 1) := rfl
set_option maxRecDepth 20000 in
set_option maxHeartbeats 4000000 in
theorem least10_any (k n : Nat) (hk : k ≤ 1000010) (hn : n ≤ 2000010) (p o : Int) (hp : p = k) (ho : o = n + 1) (w : World) :
    Calls Try.prog 82 #[.int .i64 o, .int .i64 p] w fun e w' => ∃ a c, e = .returned (.slice a (n + 2 * k + 1) c) ∧ (convert 106 9 (.slice a (n + 2 * k + 1) c)).run Try.prog w' = .ok (.string (lstS k (n + 1))) w' ∧ Below w.heap.size w w' := by
  subst hp ho
  have hkI : (0 : Int) ≤ k ∧ (k : Int) ≤ 1000010 := by omega
  have hnI : (0 : Int) ≤ n ∧ (n : Int) ≤ 2000010 := by omega
  obtain ⟨c, hc⟩ : ∃ c : Nat, n + 1 + 2 * k = c := ⟨_, rfl⟩
  have hcI : (n : Int) + 1 + 2 * k = c := by omega
  have hc2 : c ≤ 4000031 := by omega
  have hmk : ∀ w : World, (Instr.makeSlice 106 (.int .i64 0) (.int .i64 (c : Int))).run Try.prog w = .ok (.slice (some ⟨w.heap.size, 0, none⟩) 0 c) (w.alloc (.cells (madeCells #[.int .u8 0] c) 5)) := fun w => by
    obtain ⟨i, hi, hz, hsize, hbytes⟩ := info_parts el_u8.hi
    have h := run_make (P := Try.prog) w 106 5 i (.int .u8 0) el_u8.ht hi hz .i64 .i64 0 c (by omega) (by omega) (by rw [hbytes]; omega) (by omega)
    rw [h, hsize, Nat.mul_one]
    rfl
  have hown0 : (w.alloc (.cells (madeCells #[.int .u8 0] c) 5)).ownsRow w.heap.size 5 1 (.slice (some ⟨w.heap.size, 0, none⟩) 0 c) 0 [] := World.ownsRow_made w _ c (Nat.le_refl _) (by unfold maxLen; omega) (by rw [size_madeCells]; omega)
  have hb0 : Below w.heap.size w (w.alloc (.cells (madeCells #[.int .u8 0] c) 5)) := (Below.refl _ _).alloc (Nat.le_refl _) _
  have hc63 : (0 : Int) ≤ c ∧ (c : Int) ≤ 4000031 := by omega
  clear hc hc2
  go_enter Try.func82, Try.ntmps82
  go_wp2
  obtain ⟨w1, hw1⟩ : ∃ w1, w.alloc (.cells (madeCells #[.int .u8 0] c) 5) = w1 := ⟨_, rfl⟩
  rw [hw1] at hown0 hb0
  try rw [hw1]
  clear hw1 hcI hmk hc63
  go_loopg [5, 6] n (fun gg v i wr => ∃ j : Nat, j ≤ n ∧ gg = n - j ∧ i = .int .i64 ((j : Int) + 1) ∧ Hid (wr.ownsRow w.heap.size 5 1 v j (Lib.byteCells (List.replicate j 48))) ∧ Hid (Below w.heap.size w wr))
  case atStart => exact ⟨0, by omega, rfl, rfl, Lib.hid hown0, Lib.hid hb0⟩
  case round =>
    obtain ⟨j, hj, hgg, rfl, hO, hB⟩ := hrel
    have HGG := Lib.hid hgg; clear hgg hown0 hb0
    obtain ⟨va, vc, rfl⟩ := own_len hO.out
    have hj0 : (0 : Int) ≤ j := by omega
    by_cases hlt : j < n
    · have hjI : (j : Int) < n := by omega
      have hO' := hO.out
      have hB' := hB.out
      have hs' := hB'.size
      clear hO hB
      go_wp2_with (at_builtin; refine app_new el_u8 rfl _ _ rfl rfl hO' [.int .u8 48] 1 rfl rfl (by intro u hu; rw [List.mem_singleton.1 hu]; rfl) (by omega) (by unfold maxLen; omega) hs' hB' (Nat.le_refl _) ?_)
      intro v' w' hown' hb' _
      obtain ⟨a2, c2, rfl⟩ := own_len hown'
      have HO2 : Hid (w'.ownsRow w.heap.size 5 1 (.slice a2 (j + 1) c2) (j + 1) (Lib.byteCells (List.replicate (j + 1) 48))) := Lib.hid (by rw [← repl_snoc]; simpa [Lib.byteCells] using hown')
      have HB2 := Lib.hid hb'
      clear hown' hb' hO' hB' hs'
      go_wp2
      go_roundg (n - (j + 1))
      case measure => rw [HGG.out]; omega
      case rel => exact ⟨j + 1, by omega, rfl, by go_num, HO2, HB2⟩
    · obtain rfl : j = n := by omega
      have hO2 : Hid (wr.ownsRow w.heap.size 5 1 (.slice va j vc) (j + 2 * 0) (Lib.byteCells (List.replicate j 48 ++ rep10 0))) := Lib.hid (by simpa [rep10, Lib.repeatL] using hO.out)
      clear hO
      go_wp2
      go_loopg [5, 7] k (fun gg v i wr => ∃ q : Nat, q ≤ k ∧ gg = k - q ∧ i = .int .i64 (q : Int) ∧ Hid (wr.ownsRow w.heap.size 5 1 v (j + 2 * q) (Lib.byteCells (List.replicate j 48 ++ rep10 q))) ∧ Hid (Below w.heap.size w wr))
      case atStart => exact ⟨0, by omega, rfl, rfl, hO2, hB⟩
      case round =>
        clear hO2 hB
        obtain ⟨q, hq, hgq, rfl, hO, hB⟩ := hrel
        have HGQ := Lib.hid hgq; clear hgq HGG
        obtain ⟨va, vc, rfl⟩ := own_len hO.out
        have hq0 : (0 : Int) ≤ q := by omega
        have hO' := hO.out
        have hB' := hB.out
        have hs' := hB'.size
        clear hO hB
        by_cases hlq : q < k
        · have hqI : (q : Int) < k := by omega
          go_wp2_with (at_builtin; refine app_new el_u8 rfl _ _ rfl rfl hO' [.int .u8 49, .int .u8 48] 2 rfl rfl (by intro u hu; simp at hu; rcases hu with rfl | rfl <;> rfl) (by omega) (by unfold maxLen; omega) hs' hB' (Nat.le_refl _) ?_)
          intro v' w' hown' hb' _
          obtain ⟨a2, c2, rfl⟩ := own_len hown'
          have HO2 : Hid (w'.ownsRow w.heap.size 5 1 (.slice a2 (j + 2 * q + 2) c2) (j + 2 * (q + 1)) (Lib.byteCells (List.replicate j 48 ++ rep10 (q + 1)))) := Lib.hid (by
            rw [← rep10_snoc, ← List.append_assoc, show j + 2 * (q + 1) = j + 2 * q + 2 by omega]
            simpa [Lib.byteCells] using hown')
          have HB2 := Lib.hid hb'
          clear hown' hb' hO' hB' hs'
          go_wp2
          go_roundg (k - (q + 1))
          case measure => rw [HGQ.out]; omega
          case rel => exact ⟨q + 1, by omega, rfl, by go_num, HO2, HB2⟩
        · obtain rfl : q = k := by omega
          go_wp2_with (at_builtin; refine app_new el_u8 rfl _ _ rfl rfl hO' [.int .u8 48] 1 rfl rfl (by intro u hu; rw [List.mem_singleton.1 hu]; rfl) (by omega) (by unfold maxLen; omega) hs' hB' (Nat.le_refl _) ?_)
          intro v' w' hown' hb' _
          obtain ⟨a2, c2, rfl⟩ := own_len hown'
          have ho2 : w'.ownsRow w.heap.size 5 1 (.slice a2 (j + 2 * q + 1) c2) (j + 2 * q + 1) (Lib.byteCells (lst q (j + 1))) := by rw [← lst_all]; simpa [Lib.byteCells] using hown'
          have hcv := Lib.hid (own_bytes (P := Try.prog) (lst q (j + 1)) ho2 106 Try.underlying106 Try.underlying5 9 Try.underlying9)
          have HB2 := Lib.hid hb'
          clear hown' hb' hO' hB' hs' ho2
          go_wp2
          go_ret
          exact ⟨a2, c2, rfl, hcv.out, HB2.out⟩

set_option maxRecDepth 20000 in
set_option maxHeartbeats 8000000 in
theorem next10_any (t u : Tr) (ht : t.size ≤ 2000000) (hu : tnx t = u.enc) (w : World) :
    Calls Try.prog 39 #[.string (TS t)] w fun e w' => e = .returned (.string (TS u)) ∧ Below w.heap.size w w' := by
  have hlen := tnx_len t u hu
  have hts := t.size_pairs
  have hD := nxt_drop (Wd.enc t)
  rw [Tr.enc_length] at hD
  obtain ⟨N, hN⟩ : ∃ N, t.size = N := ⟨_, rfl⟩
  have hsz : (TS t).size = N := by rw [TS_size, hN]
  have hst : (TS t).data.toList = t.enc := TS_list t
  rw [hN] at hD hlen hts ht
  obtain ⟨S, hS⟩ : ∃ S, TS u = S := ⟨_, rfl⟩
  obtain ⟨s, hs⟩ : ∃ s, TS t = s := ⟨_, rfl⟩
  rw [hs] at hsz hst ⊢
  rw [hS]
  obtain ⟨P, hP⟩ : ∃ P, t.pairs = P := ⟨_, rfl⟩
  rw [hP] at hts
  have hNI : (N : Int) ≤ 2000000 ∧ (1 : Int) ≤ N := by omega
  have HD := Lib.hid hD
  have HLEN := Lib.hid hlen
  have HST := Lib.hid hst
  have HS := Lib.hid hS
  have HT := Lib.hid hts
  have HU := Lib.hid hu
  have HP := Lib.hid hP
  clear hD hlen hst hS hs hts hu hN hP
  go_enter Try.func39, Try.ntmps39
  go_wp2
  go_loopg [3, 4, 5] N (fun gg b a c wr => ∃ (j p n : Nat), j ≤ N ∧ gg = j ∧ a = .int .i64 (p : Int) ∧ b = .int .i64 (n : Int) ∧ c = .int .i64 ((j : Int) - 1) ∧ p ≤ 1000000 ∧ n ≤ 2000000 ∧ Hid (Wd p n (t.enc.drop j)) ∧ Hid (nxt n (t.enc.drop j) = none) ∧ wr = w)
  case atStart =>
    have hnil : t.enc.drop N = [] := List.drop_eq_nil_of_le (by rw [← HST.out]; simp [hsz])
    exact ⟨N, 0, 0, by omega, rfl, rfl, rfl, rfl, by omega, by omega, Lib.hid (by rw [hnil]; exact .nil), Lib.hid (by rw [hnil]; rfl), rfl⟩
  case round =>
    obtain ⟨j, p, n, hj, hgg, rfl, rfl, rfl, hp, hn, hWd, hNx, hwr⟩ := hrel
    have HGG := Lib.hid hgg; clear hgg
    subst hwr
    have hl2 := Lib.hid (show 2 * p + n = N - j by
      have h1 := hWd.out.len
      rw [List.length_drop, Tr.enc_length] at h1
      have h3 : t.size = N := by rw [← Tr.enc_length, ← HST.out]; simpa using hsz
      omega)
    cases j with
    | zero =>
      have hpP : p = P := by
        have h2 := hWd.out
        rw [List.drop_zero] at h2
        rw [← ((Wd.enc t).same h2).1]
        exact HP.out
      have hx : nxt 1 t.enc = none := by
        have h1 := hNx.out
        have h2 := hWd.out
        rw [List.drop_zero] at h1 h2
        rw [← ((Wd.enc t).same h2).2] at h1
        exact h1
      subst hpP
      have htn : u.enc = lst (p + 1) 1 := by
        rw [← HU.out, ← HP.out]
        unfold tnx lst
        rw [hx]
        simp
      have huS : TS u = lstS (p + 1) (0 + 1) := by unfold TS lstS; rw [htn]
      have kl := Lib.hid (fun w => least10_any (p + 1) 0 (by omega) (by omega) ((p : Int) + 1) 1 (by omega) (by omega) w)
      rw [← huS, HS.out] at kl
      have hpI : (0 : Int) ≤ p ∧ (p : Int) ≤ 1000000 := by omega
      have hz0 : ¬ (0 : Int) ≤ ((0 : Nat) : Int) - 1 := by omega
      obtain ⟨zn, hzn⟩ : ∃ zn, 0 + 2 * (p + 1) + 1 = zn := ⟨_, rfl⟩
      rw [hzn] at kl
      clear hzn hWd hNx hx htn huS hsz hl2 hNI hp hn HP HT
      go_wp2_with fail
      refine (kl.out _).mono ?_
      rintro e w2 ⟨za, zc, rfl, hcv, hb2⟩
      go_wp2
      go_ret
      exact ⟨rfl, hb2⟩
    | succ i =>
      have hiS : i < s.size := by omega
      obtain ⟨p', n', hW', hM⟩ := HD.out i (by omega)
      have hdc := drop_cons s i hiS
      rw [HST.out] at hdc
      rw [hdc] at hW' hM
      obtain ⟨c, hc⟩ : ∃ c, s[i] = c := ⟨_, rfl⟩
      have HC := Lib.hid hc
      rw [hc] at hW' hM hdc
      have hiI : (i : Int) < s.size ∧ (0 : Int) ≤ i := by omega
      have hsb : (s.size : Int) ≤ 2000000 := by omega
      have hpb : (p : Int) ≤ 1000000 ∧ (n : Int) ≤ 2000000 := by omega
      have hl3 := hl2.out
      cases hW' with
      | @zero _ n' _ hW3 =>
        obtain ⟨rfl, rfl⟩ := hW3.same hWd.out
        have b9 : ((s[i].toNat : Int) == 49) = false := by rw [hc]; rfl
        have HM := Lib.hid hM
        have HDC := Lib.hid hdc
        have hones := hWd.out.ones
        have HL3 := Lib.hid hl3
        clear hW3 hM hdc hc hl3
        cases p' with
        | zero =>
          go_wp2
          go_roundg i
          case measure => rw [HGG.out]; omega
          case rel =>
            refine ⟨i, 0, n' + 1, by omega, rfl, rfl, by go_num, by go_num, by omega, by have := HL3.out; omega, Lib.hid (by rw [HDC.out]; exact .zero hWd.out), Lib.hid ?_, rfl⟩
            rw [HDC.out, nxt, show (if (48 : UInt8) = 49 then n' + 1 + 1 else n' + 1 - 1) = n' by simp, hNx.out, hones]
            simp
        | succ p =>
          have hnx : nxt (n' + 1) (48 :: t.enc.drop (i + 1)) = some (49 :: lst p (n' + 2)) := by
            rw [nxt, show (if (48 : UInt8) = 49 then n' + 1 + 1 else n' + 1 - 1) = n' by simp, hNx.out, hones]
            simp
          have hall := HM.out _ hnx
          obtain ⟨hun, hue⟩ := HLEN.out.2 _ hall
          have kl := Lib.hid (fun w => least10_any p (n' + 1) (by omega) (by omega) (IntKind.i64.wrap (p : Int)) (IntKind.i64.wrap ((n' : Int) + 1 + 1)) (IntWalk.i64_in _ (by omega)) (by rw [IntWalk.i64_in _ (by omega)]; omega) w)
          have huS : TS u = s.extract 0 i ++ ⟨#[49]⟩ ++ lstS p (n' + 1 + 1) := by
            apply ba_ext
            rw [TS_list, hue]
            rw [ByteArray.data_append, ByteArray.data_append, Array.toList_append, Array.toList_append, ByteArray.data_extract]
            have h4 : (s.data.extract 0 i).toList = t.enc.take i := by rw [← HST.out]; simp
            rw [h4]
            show _ = _ ++ [49] ++ (lst p (n' + 2)).toArray.toList
            simp
          have k1 : ∀ w, (Op.stringOp .add (s.extract 0 i) ⟨#[49]⟩).run Try.prog w = .ok (.string (s.extract 0 i ++ ⟨#[49]⟩)) w := fun w => by
            refine run_string_add_sum w _ _ ?_
            show (s.extract 0 i).size + 1 ≤ _
            rw [ByteArray.size_extract]
            omega
          have k2 : ∀ w, (Op.stringOp .add (s.extract 0 i ++ ⟨#[49]⟩) (lstS p (n' + 1 + 1))).run Try.prog w = .ok (.string (TS u)) w := fun w => by
            rw [huS]
            refine run_string_add_sum w _ _ ?_
            rw [ByteArray.size_append, lstS_size]
            show (s.extract 0 i).size + 1 + _ ≤ _
            rw [ByteArray.size_extract]
            omega
          rw [HS.out] at k2
          clear hnx hall hue huS hones
          generalize lstS p (n' + 1 + 1) = r at kl k2
          generalize (s.extract 0 i ++ ⟨#[49]⟩ : ByteArray) = r1 at k1 k2
          have hpI : (0 : Int) ≤ p ∧ (p : Int) ≤ 1000000 := by omega
          have hi0 : (0 : Int) ≤ i := by omega
          have hnI : (0 : Int) ≤ n' ∧ (n' : Int) ≤ 2000000 := by omega
          clear hpb hp hn hj hun
          have hiS2 : ¬ s.size < i := by omega
          have k0 : ∀ w, (Instr.slice 9 (.string s) none (some (.int .i64 (i : Int))) none).run Try.prog w = .ok (.string (s.extract 0 i)) w := fun w => by
            simp [Instr.slice, Instr.sliceBounds, Instr.sliceBound, go_sem, hi0, hiS2]
          generalize s.extract 0 i = r0 at k0 k1
          obtain ⟨zn, hzn⟩ : ∃ zn, n' + 1 + 2 * p + 1 = zn := ⟨_, rfl⟩
          rw [hzn] at kl
          clear hsz hsb hl2 hzn
          go_wp2
          go_region_law ((first | ((with_reducible refine (kl.out _).mono ?_); rintro e wz ⟨za, zc, rfl, hcz, hzz⟩) | (go_simp; (with_reducible refine (kl.out _).mono ?_); rintro e wz ⟨za, zc, rfl, hcz, hzz⟩) | (fail "arm")))
          all_goals
            go_wp2
            go_ret
            exact ⟨rfl, below_of_drew hzz⟩
      | @one p' n' _ hW3 =>
        obtain ⟨rfl, rfl⟩ := hW3.same hWd.out
        have b9 : ((s[i].toNat : Int) == 49) = true := by rw [hc]; rfl
        have HDC := Lib.hid hdc
        have HL3 := Lib.hid hl3
        clear hW3 hM hdc hc hl3
        go_wp2
        go_roundg i
        case measure => rw [HGG.out]; omega
        case rel =>
          refine ⟨i, p' + 1, n' + 1, by omega, rfl, by go_num, by go_num, by go_num, by have := HL3.out; omega, by have := HL3.out; omega, Lib.hid (by rw [HDC.out]; exact .one hWd.out), Lib.hid ?_, rfl⟩
          rw [HDC.out, nxt, show (if (49 : UInt8) = 49 then n' + 1 + 1 else n' + 1 - 1) = n' + 2 by simp, hNx.out]
          simp
end Go.Proofs.Ytdjbcmfjlfkcjaa


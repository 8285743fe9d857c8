/- defeat: Defeat, Liar. -/
import Derived.Test.YtlaeljkjdfffjaaDef1
import Derived.Test.YtlaeljkjdfffjaaMB4
namespace Go.Proofs.Ytlaeljkjdfffjaa
open Go.RowKit

/-- What Defeat hands back: the program, or nothing. -/
def defD (d y n : List Ins) : List Ins := if defE d y n = 0 then knowL (defQ d y n (defW d y n)) else []
theorem defE_bad {d y n l : List Ins} (h : l ∈ [d, y, n]) (hv : validB l = false) : defE d y n = 1 := by
  unfold defE
  rw [if_neg]
  rintro ⟨h1, h2, h3⟩
  rcases List.mem_cons.1 h with rfl | h
  · rw [h1] at hv; cases hv
  · rcases List.mem_cons.1 h with rfl | h
    · rw [h2] at hv; cases hv
    · rcases List.mem_cons.1 h with rfl | h
      · rw [h3] at hv; cases hv
      · cases h
theorem defE_all {d y n : List Ins} (h : ∀ l ∈ [d, y, n], validB l = true) : defE d y n = if 30 < defW d y n then 8 else if validB (defQ d y n (defW d y n)) = true then knowE (defQ d y n (defW d y n)) else 3 := by
  unfold defE
  rw [if_pos ⟨h d (by simp), h y (by simp), h n (by simp)⟩]
theorem defE_know {d y n : List Ins} (h : ∀ l ∈ [d, y, n], validB l = true) (hw : ¬ 30 < defW d y n) (hq : validB (defQ d y n (defW d y n)) = true) : defE d y n = knowE (defQ d y n (defW d y n)) := by
  rw [defE_all h, if_neg hw, if_pos hq]
theorem defW_pos (d y n : List Ins) : 1 ≤ defW d y n := by unfold defW regN; omega
theorem foldW (d y n : List Ins) : ([d, y, n].map regN).foldl max 0 = defW d y n := by simp [defW]
theorem clear_cleanK (m : Nat) : clearL 1 m = cleanK m := by unfold clearL cleanK; congr 1; funext j; rw [Nat.add_comm]
theorem defQ_build (d y n : List Ins) (W m : Nat) (hm : W = m + 1) : (((((((([] ++ [⟨4, W, 0, 0, ⟨#[]⟩⟩, ⟨3, 0, 0, 0, ⟨#[]⟩⟩]) ++ d) ++ [moveI (W + 1) 0]) ++ clearL 1 m) ++ [moveI 0 W, jumpI (W + 1) ((y.length : Int) + 3)]) ++ y) ++ [setI (W + 1) ⟨#[49, 48, 48]⟩, jumpI (W + 1) ((n.length : Int) + 1)]) ++ n) = defQ d y n W := by
  unfold defQ
  rw [List.nil_append, clear_cleanK, show W - 1 = m by omega]
theorem snoc_fold (ls : List (List Ins)) (k : Nat) {l : List Ins} (h : ls[k]? = some l) : ((ls.take (k + 1)).map regN).foldl max 0 = max (((ls.take k).map regN).foldl max 0) (regN l) := by
  rw [take_snoc' _ _ _ h]; simp
set_option maxRecDepth 20000 in
set_option maxHeartbeats 8000000 in
theorem defeat_due (en : Int) (vd vy vn : Value) (d y n : List Ins) (w : World) (hhD : InsRow w w.heap.size vd d) (hhY : InsRow w w.heap.size vy y) (hhN : InsRow w w.heap.size vn n) (he : defE d y n = en) :
    Calls Try.prog 55 #[vd, vy, vn] w fun e w' => ∃ v', e = .returned (.tuple #[v', .int .i64 en]) ∧ OwnI w' w.heap.size v' (defD d y n) ∧ Below w.heap.size w w' := by
  obtain ⟨da, dc, rfl⟩ := hhD.len
  obtain ⟨ya, yc, rfl⟩ := hhY.len
  obtain ⟨na, nc, rfl⟩ := hhN.len
  have hD := Lib.hid hhD
  have hY := Lib.hid hhY
  have hN := Lib.hid hhN
  have HE := Lib.hid he
  clear hhD hhY hhN he
  have ch := Lib.hid (Below.refl w.heap.size w)
  go_enter Try.func55, Try.ntmps55
  go_wp2
  have hL0 := ProgsRow.lit (w := w) [.slice da d.length dc, .slice ya y.length yc, .slice na n.length nc] [d, y, n] rfl (by simp) (fun j u l hu hl => match j, u, l, hu, hl with | 0, _, _, hu, hl => by cases hu; cases hl; exact hD.out | 1, _, _, hu, hl => by cases hu; cases hl; exact hY.out | 2, _, _, hu, hl => by cases hu; cases hl; exact hN.out)
  obtain ⟨w1, hW⟩ : ∃ B, w.alloc (.cells #[.slice da d.length dc, .slice ya y.length yc, .slice na n.length nc] 23) = B := ⟨_, rfl⟩
  rw [hW]
  have hq : Below w.heap.size w w1 := by rw [← hW]; exact (Below.refl _ _).alloc (Nat.le_refl _) _
  have hL := Lib.hid (show ProgsRow w1 w1.heap.size (.slice (some ⟨w.heap.size, 0, none⟩) 3 3) [d, y, n] by rw [← hW]; exact hL0)
  clear hW hL0
  have hD := Lib.hid ((hD.out.below hq).mono hq.size)
  have hY := Lib.hid ((hY.out.below hq).mono hq.size)
  have hN := Lib.hid ((hN.out.below hq).mono hq.size)
  have ch := Lib.hid (ch.out.trans (hq.mono ch.out.size))
  clear hq
  have chB := ch
  go_loopg [8, 21] 3 (fun gg m i wr => ∃ k W : Nat, k ≤ 3 ∧ gg = 3 - k ∧ m = .int .i64 W ∧ i = .int .i64 k ∧ W ≤ 32 ∧ Hid (W = (([d, y, n].take k).map regN).foldl max 0) ∧ Hid (∀ l ∈ [d, y, n].take k, validB l = true) ∧ Below w1.heap.size w1 wr)
  case atStart => exact ⟨0, 0, by omega, rfl, rfl, rfl, by omega, Lib.hid rfl, Lib.hid (fun l h => by cases h), Below.refl _ _⟩
  case round =>
    obtain ⟨k, W, hk, hg, rfl, rfl, hW32, hWk, hVk, hq⟩ := hrel
    have HG := Lib.hid hg
    have HB := Lib.hid hq
    clear hg
    have hD := Lib.hid ((hD.out.below hq).mono hq.size)
    have hY := Lib.hid ((hY.out.below hq).mono hq.size)
    have hN := Lib.hid ((hN.out.below hq).mono hq.size)
    have hL := Lib.hid ((hL.out.below hq).mono hq.size)
    have ch := Lib.hid (ch.out.trans (hq.mono ch.out.size))
    clear hq
    by_cases hlt : k < 3
    · obtain ⟨l, hlk⟩ : ∃ l, [d, y, n][k]? = some l := ⟨_, List.getElem?_eq_getElem (by simpa using hlt)⟩
      obtain ⟨g, off, u, hgo, hg, c0, hu⟩ := hL.out.get hlk
      injection hgo with hgo
      injection hgo with hgo1 hgo2
      subst hgo1
      subst hgo2
      obtain ⟨ua, uc, rfl⟩ := hu.len
      have hU := Lib.hid hu
      have HLK := Lib.hid hlk
      rw [Nat.zero_add] at c0
      have hi0 : (0 : Int) ≤ (k : Int) := Int.natCast_nonneg _
      have hi1 : (k : Int) < 3 := by omega
      obtain ⟨bv, hbv⟩ : ∃ b, validB l = b := ⟨_, rfl⟩
      have HV := Lib.hid hbv
      clear hu hlk hbv
      cases bv with
      | false =>
        have h1 : en = 1 := by rw [← HE.out]; exact defE_bad (List.mem_of_getElem? HLK.out) HV.out
        subst h1
        go_wp2_with fail
        refine (codeRegs_bad _ l _ hU.out HV.out).mono ?_
        rintro e wz ⟨rfl, hqz⟩
        have ch := Lib.hid (ch.out.trans (hqz.mono ch.out.size))
        go_wp2
        refine bodyPost_ret (v := .tuple #[.slice none 0 0, .int .i64 1]) (by simp [results, Try.results55, go_sem]) rfl ?_
        refine ⟨_, rfl, ?_, ch.out⟩
        unfold defD
        rw [if_neg (by rw [HE.out]; decide)]
        exact OwnI.nil _ _
      | true =>
        have hRl := regN_le (validB_all HV.out)
        have HR1 := Lib.hid hRl.1
        obtain ⟨R, hR⟩ : ∃ R, regN l = R := ⟨_, rfl⟩
        have kr := Lib.hid (codeRegs_ok _ l _ hU.out HV.out)
        rw [hR] at hRl kr
        have HR := Lib.hid hR
        have hR32 := hRl.2
        clear hRl hR
        go_wp2_with fail
        refine kr.out.mono ?_
        rintro e wz ⟨rfl, hqz⟩
        have HB2 := Lib.hid (HB.out.trans (hqz.mono HB.out.size))
        clear hqz
        have HS := Lib.hid (snoc_fold [d, y, n] k HLK.out)
        have HVS := Lib.hid (show ∀ l ∈ [d, y, n].take (k + 1), validB l = true by
          rw [take_snoc' _ _ _ HLK.out]
          intro l' hl'
          rcases List.mem_append.1 hl' with h | h
          · exact hVk.out l' h
          · rw [List.mem_singleton.1 h]; exact HV.out)
        go_wp2
        all_goals (
          go_roundg (3 - (k + 1))
          case measure => rw [HG.out]; omega
          case rel => exact ⟨k + 1, max W R, by omega, rfl, by congr 1; omega, by go_num, by omega, Lib.hid (by rw [HS.out, HR.out, ← hWk.out]), HVS, HB2.out⟩)
    · have hk3 : k = 3 := by omega
      subst hk3
      have HALL := Lib.hid (show ∀ l ∈ [d, y, n], validB l = true from hVk.out)
      have HW := Lib.hid (show W = defW d y n from hWk.out.trans (foldW d y n))
      have HW1 := Lib.hid (show 1 ≤ W by rw [HW.out]; exact defW_pos d y n)
      have hd4 := validB_len (HALL.out d (by simp))
      have hy4 := validB_len (HALL.out y (by simp))
      have hn4 := validB_len (HALL.out n (by simp))
      have hy4I : (y.length : Int) ≤ 4000 := by omega
      have hn4I : (n.length : Int) ≤ 4000 := by omega
      have HD4 := Lib.hid hd4
      have HY4 := Lib.hid hy4
      have HN4 := Lib.hid hn4
      clear hd4 hy4 hn4 hWk hVk HG hlt hk
      clear hL
      by_cases hw : (30 : Int) < (W : Int)
      · have h8 : en = 8 := by rw [← HE.out, defE_all HALL.out, if_pos (by rw [← HW.out]; omega)]
        subst h8
        go_wp2
        refine bodyPost_ret (v := .tuple #[.slice none 0 0, .int .i64 8]) (by simp [results, Try.results55, go_sem]) rfl ?_
        refine ⟨_, rfl, ?_, ch.out⟩
        unfold defD
        rw [if_neg (by rw [HE.out]; decide)]
        exact OwnI.nil _ _
      have hWI : (W : Int) ≤ 30 := by omega
      have hWI0 : (1 : Int) ≤ (W : Int) := by have := HW1.out; omega
      obtain ⟨m, hm⟩ : ∃ m, W = m + 1 := ⟨W - 1, by have := HW1.out; omega⟩
      have HM := Lib.hid hm
      have hmI : (m : Int) ≤ 29 := by omega
      clear hm
      go_wp2_with fail
      obtain ⟨w2, hW⟩ : ∃ B, wr.alloc (.cells #[.slice none 0 0] 23) = B := ⟨_, rfl⟩
      rw [hW]
      have hq : Below wr.heap.size wr w2 := by rw [← hW]; exact (Below.refl _ _).alloc (Nat.le_refl _) _
      have bq := Lib.hid (show BoxQ w2 wr.heap.size [] by rw [← hW]; exact BoxQ.new _)
      have hz_w2 : w2.heap.size = wr.heap.size + 1 := by rw [← hW]; simp
      clear hW
      have qD := Lib.hid (hD.out.below hq)
      clear hD
      have qY := Lib.hid (hY.out.below hq)
      clear hY
      have qN := Lib.hid (hN.out.below hq)
      clear hN
      have rl := Lib.hid (Below.refl wr.heap.size w2)
      have chQ := Lib.hid (ch.out.trans (hq.mono ch.out.size))
      clear hq
      obtain ⟨w3, hW⟩ : ∃ B, w2.alloc (.cells #[.int .i64 4, .int .i64 W, .int .i64 0, .int .i64 0, .string ⟨#[]⟩, .int .i64 3, .int .i64 0, .int .i64 0, .int .i64 0, .string ⟨#[]⟩] 41) = B := ⟨_, rfl⟩
      rw [hW]
      have hq : Below w2.heap.size w2 w3 := by rw [← hW]; exact (Below.refl _ _).alloc (Nat.le_refl _) _
      have hl := Lib.hid (show InsRow w3 w3.heap.size (.slice (some ⟨wr.heap.size + 1, 0, none⟩) 2 2) [⟨4, W, 0, 0, ⟨#[]⟩⟩, ⟨3, 0, 0, 0, ⟨#[]⟩⟩] by rw [← hz_w2, ← hW]; exact (OwnI.lit w2 [⟨4, W, 0, 0, ⟨#[]⟩⟩, ⟨3, 0, 0, 0, ⟨#[]⟩⟩] (by simp only [List.forall_mem_cons, List.not_mem_nil, false_imp_iff, implies_true, and_true]; exact ⟨wf_lit _ _ _ _ _ (by unfold i64; decide) (by unfold i64; omega) (by unfold i64; decide) (by unfold i64; decide) (by decide), headI_wf⟩) (by simp)).row (by simp))
      have rl := Lib.hid (rl.out.trans (hq.mono (Nat.le_of_lt bq.out.lt)))
      have bq := Lib.hid (bq.out.below hq)
      clear hq hW
      refine (add_any _ _ _ _ _ bq.out hl.out (by have := HD4.out; have := HY4.out; have := HN4.out; simp <;> omega)).mono ?_
      rintro e w4 ⟨rfl, bq1, hq⟩
      have rl := Lib.hid (rl.out.trans hq)
      have bq := Lib.hid bq1
      clear bq1 hq
      clear hl
      go_wp2_with fail
      refine (add_any _ _ _ _ _ bq.out ((qD.out.below rl.out).mono (Nat.le_of_lt bq.out.lt)) (by have := HD4.out; have := HY4.out; have := HN4.out; simp <;> omega)).mono ?_
      rintro e w5 ⟨rfl, bq1, hq⟩
      have rl := Lib.hid (rl.out.trans hq)
      have bq := Lib.hid bq1
      clear bq1 hq
      go_wp2_with fail
      obtain ⟨w6, hW⟩ : ∃ B, w5.alloc (.cells #[.int .i64 1, .int .i64 ((W : Int) + 1), .int .i64 0, .int .i64 0, .string ⟨#[]⟩] 41) = B := ⟨_, rfl⟩
      rw [hW]
      have hq : Below w5.heap.size w5 w6 := by rw [← hW]; exact (Below.refl _ _).alloc (Nat.le_refl _) _
      have hl := Lib.hid (show InsRow w6 w6.heap.size (.slice (some ⟨w5.heap.size, 0, none⟩) 1 1) [moveI (W + 1) 0] by rw [← hW]; exact (OwnI.lit w5 [moveI (W + 1) 0] (by simp only [List.forall_mem_cons, List.not_mem_nil, false_imp_iff, implies_true, and_true]; exact moveI_wf _ _ (by omega) (by omega)) (by simp)).row (by simp))
      have rl := Lib.hid (rl.out.trans (hq.mono (Nat.le_of_lt bq.out.lt)))
      have bq := Lib.hid (bq.out.below hq)
      clear hq hW
      refine (add_any _ _ _ _ _ bq.out hl.out (by have := HD4.out; have := HY4.out; have := HN4.out; simp <;> omega)).mono ?_
      rintro e w7 ⟨rfl, bq1, hq⟩
      have rl := Lib.hid (rl.out.trans hq)
      have bq := Lib.hid bq1
      clear bq1 hq
      clear hl
      go_wp2_with fail
      refine (kclear_row 1 m (by omega) (by omega) _ _ (by have := HM.out; omega)).mono ?_
      rintro e w8 ⟨ka, kc, rfl, hl, hq⟩
      have rl := Lib.hid (rl.out.trans (hq.mono (Nat.le_of_lt bq.out.lt)))
      have bq := Lib.hid (bq.out.below hq)
      have hl := Lib.hid hl
      clear hq
      go_wp2_with fail
      refine (add_any _ _ _ _ _ bq.out hl.out (by have := HD4.out; have := HY4.out; have := HN4.out; simp [clearL_length] <;> omega)).mono ?_
      rintro e w9 ⟨rfl, bq1, hq⟩
      have rl := Lib.hid (rl.out.trans hq)
      have bq := Lib.hid bq1
      clear bq1 hq
      clear hl
      go_wp2_with fail
      obtain ⟨w10, hW⟩ : ∃ B, w9.alloc (.cells #[.int .i64 1, .int .i64 0, .int .i64 W, .int .i64 0, .string ⟨#[]⟩, .int .i64 5, .int .i64 ((W : Int) + 1), .int .i64 ((y.length : Int) + 3), .int .i64 0, .string ⟨#[]⟩] 41) = B := ⟨_, rfl⟩
      rw [hW]
      have hq : Below w9.heap.size w9 w10 := by rw [← hW]; exact (Below.refl _ _).alloc (Nat.le_refl _) _
      have hl := Lib.hid (show InsRow w10 w10.heap.size (.slice (some ⟨w9.heap.size, 0, none⟩) 2 2) [moveI 0 W, jumpI (W + 1) ((y.length : Int) + 3)] by rw [← hW]; exact (OwnI.lit w9 [moveI 0 W, jumpI (W + 1) ((y.length : Int) + 3)] (by simp only [List.forall_mem_cons, List.not_mem_nil, false_imp_iff, implies_true, and_true]; exact ⟨moveI_wf _ _ (by omega) (by omega), jumpI_wf _ _ (by omega) (by omega)⟩) (by simp)).row (by simp))
      have rl := Lib.hid (rl.out.trans (hq.mono (Nat.le_of_lt bq.out.lt)))
      have bq := Lib.hid (bq.out.below hq)
      clear hq hW
      refine (add_any _ _ _ _ _ bq.out hl.out (by have := HD4.out; have := HY4.out; have := HN4.out; simp [clearL_length] <;> omega)).mono ?_
      rintro e w11 ⟨rfl, bq1, hq⟩
      have rl := Lib.hid (rl.out.trans hq)
      have bq := Lib.hid bq1
      clear bq1 hq
      clear hl
      go_wp2_with fail
      refine (add_any _ _ _ _ _ bq.out ((qY.out.below rl.out).mono (Nat.le_of_lt bq.out.lt)) (by have := HD4.out; have := HY4.out; have := HN4.out; simp [clearL_length] <;> omega)).mono ?_
      rintro e w12 ⟨rfl, bq1, hq⟩
      have rl := Lib.hid (rl.out.trans hq)
      have bq := Lib.hid bq1
      clear bq1 hq
      go_wp2_with fail
      obtain ⟨w13, hW⟩ : ∃ B, w12.alloc (.cells #[.int .i64 0, .int .i64 ((W : Int) + 1), .int .i64 0, .int .i64 0, .string ⟨#[49, 48, 48]⟩, .int .i64 5, .int .i64 ((W : Int) + 1), .int .i64 ((n.length : Int) + 1), .int .i64 0, .string ⟨#[]⟩] 41) = B := ⟨_, rfl⟩
      rw [hW]
      have hq : Below w12.heap.size w12 w13 := by rw [← hW]; exact (Below.refl _ _).alloc (Nat.le_refl _) _
      have hl := Lib.hid (show InsRow w13 w13.heap.size (.slice (some ⟨w12.heap.size, 0, none⟩) 2 2) [setI (W + 1) ⟨#[49, 48, 48]⟩, jumpI (W + 1) ((n.length : Int) + 1)] by rw [← hW]; exact (OwnI.lit w12 [setI (W + 1) ⟨#[49, 48, 48]⟩, jumpI (W + 1) ((n.length : Int) + 1)] (by simp only [List.forall_mem_cons, List.not_mem_nil, false_imp_iff, implies_true, and_true]; exact ⟨wf_lit _ _ _ _ _ (by unfold i64; decide) (by unfold i64; omega) (by unfold i64; decide) (by unfold i64; decide) (by decide), jumpI_wf _ _ (by omega) (by omega)⟩) (by simp)).row (by simp))
      have rl := Lib.hid (rl.out.trans (hq.mono (Nat.le_of_lt bq.out.lt)))
      have bq := Lib.hid (bq.out.below hq)
      clear hq hW
      refine (add_any _ _ _ _ _ bq.out hl.out (by have := HD4.out; have := HY4.out; have := HN4.out; simp [clearL_length] <;> omega)).mono ?_
      rintro e w14 ⟨rfl, bq1, hq⟩
      have rl := Lib.hid (rl.out.trans hq)
      have bq := Lib.hid bq1
      clear bq1 hq
      clear hl
      go_wp2_with fail
      refine (add_any _ _ _ _ _ bq.out ((qN.out.below rl.out).mono (Nat.le_of_lt bq.out.lt)) (by have := HD4.out; have := HY4.out; have := HN4.out; simp [clearL_length] <;> omega)).mono ?_
      rintro e w15 ⟨rfl, bq1, hq⟩
      have rl := Lib.hid (rl.out.trans hq)
      have bq := Lib.hid bq1
      clear bq1 hq
      rw [defQ_build d y n W m HM.out] at bq
      have hWH := HW.out
      have bq := Lib.hid (show BoxQ w15 wr.heap.size (defQ d y n (defW d y n)) by rw [← hWH]; exact bq.out)
      clear hWH
      obtain ⟨vq, hbx, hown⟩ := bq.out
      obtain ⟨qa, qc, rfl⟩ := hown.slice
      obtain ⟨Q, hQ⟩ : ∃ Q, defQ d y n (defW d y n) = Q := ⟨_, rfl⟩
      have hlenQ : (defQ d y n (defW d y n)).length ≤ 20000 := by rw [defQ_length _ _ _ _ (defW_pos d y n)]; have := HD4.out; have := HY4.out; have := HN4.out; have := HW.out; omega
      rw [hQ] at hbx hown hlenQ
      have HQ := Lib.hid hQ
      have hR := Lib.hid (hown.row (by omega))
      have HBX := Lib.hid hbx
      have cx := cell_of_one hbx
      have ch := Lib.hid (chQ.out.trans (rl.out.mono ch.out.size))
      clear hQ hown hbx bq rl chQ
      obtain ⟨bv, hbv⟩ : ∃ b, validB Q = b := ⟨_, rfl⟩
      have HV := Lib.hid hbv
      clear hbv
      go_wp2_with fail
      refine (codeValidP_at _ Q _ hR.out bv HV.out).mono ?_
      rintro e wv ⟨rfl, hq⟩
      have hR := Lib.hid ((hR.out.below hq).mono hq.size)
      have ch := Lib.hid (ch.out.trans (hq.mono ch.out.size))
      have hbx := (hq.block _ (lt_of_block HBX.out)).trans HBX.out
      have cx1 := cell_of_one hbx
      clear hq cx hbx
      cases bv with
      | false =>
        have h3 : en = 3 := by rw [← HE.out, defE_all HALL.out, if_neg (by rw [← HW.out]; omega), if_neg (by rw [HQ.out, HV.out]; decide)]
        subst h3
        go_wp2
        refine bodyPost_ret (v := .tuple #[.slice none 0 0, .int .i64 3]) (by simp [results, Try.results55, go_sem]) rfl ?_
        refine ⟨_, rfl, ?_, ch.out⟩
        unfold defD
        rw [if_neg (by rw [HE.out]; decide)]
        exact OwnI.nil _ _
      | true =>
        have hEn := (defE_know HALL.out (by rw [← HW.out]; omega) (by rw [HQ.out]; exact HV.out)).symm.trans HE.out
        have hDD : defD d y n = knowD Q := by unfold defD knowD; rw [HE.out, ← hEn, HQ.out]
        rw [HQ.out] at hEn
        have HEN := Lib.hid hEn
        have HDD := Lib.hid hDD
        clear hEn hDD
        go_wp2_with fail
        refine (know_due en _ Q _ hR.out HEN.out).mono ?_
        rintro e wk ⟨vk, rfl, hK, hq⟩
        obtain ⟨ka2, kc2, rfl⟩ := hK.slice
        have hK := Lib.hid (OwnI.lower (B' := w.heap.size) hK ch.out.size)
        have ch := Lib.hid (ch.out.trans (hq.mono ch.out.size))
        clear hq
        go_wp2
        refine bodyPost_ret (v := .tuple #[.slice ka2 (knowD Q).length kc2, .int .i64 en]) (by simp [results, Try.results55, go_sem]) rfl ?_
        exact ⟨_, rfl, by rw [HDD.out]; exact hK.out, ch.out⟩
end Go.Proofs.Ytlaeljkjdfffjaa


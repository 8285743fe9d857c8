/- ref09: Defeat, Liar. -/
import Derived.Test.YtaiomcjopgnfpaaDef2
namespace Go.Proofs.Ytaiomcjopgnfpaa
open Go.RowKit

theorem r9set_any (a : Int) (s : ByteArray) (w : World) :
    Calls Try.prog 103 #[.int .i64 a, .string s] w fun e w' => e = .returned (.agg #[.int .i64 0, .int .i64 a, .int .i64 0, .int .i64 0, .string s]) ∧ Below w.heap.size w w' := by
  go_enter Try.func103, Try.ntmps103
  go_wp2
  refine bodyPost_ret (v := .agg #[.int .i64 0, .int .i64 a, .int .i64 0, .int .i64 0, .string s]) (by simp [results, Try.results103, go_sem]) rfl ?_
  exact ⟨rfl, (Below.refl _ _).alloc (Nat.le_refl _) _⟩

theorem r9move_any (a b : Int) (w : World) :
    Calls Try.prog 102 #[.int .i64 a, .int .i64 b] w fun e w' => e = .returned (.agg #[.int .i64 1, .int .i64 a, .int .i64 b, .int .i64 0, .string ⟨#[]⟩]) ∧ Below w.heap.size w w' := by
  go_enter Try.func102, Try.ntmps102
  go_wp2
  refine bodyPost_ret (v := .agg #[.int .i64 1, .int .i64 a, .int .i64 b, .int .i64 0, .string ⟨#[]⟩]) (by simp [results, Try.results102, go_sem]) rfl ?_
  exact ⟨rfl, (Below.refl _ _).alloc (Nat.le_refl _) _⟩

theorem r9jump_any (a b : Int) (w : World) :
    Calls Try.prog 104 #[.int .i64 a, .int .i64 b] w fun e w' => e = .returned (.agg #[.int .i64 5, .int .i64 a, .int .i64 b, .int .i64 0, .string ⟨#[]⟩]) ∧ Below w.heap.size w w' := by
  go_enter Try.func104, Try.ntmps104
  go_wp2
  refine bodyPost_ret (v := .agg #[.int .i64 5, .int .i64 a, .int .i64 b, .int .i64 0, .string ⟨#[]⟩]) (by simp [results, Try.results104, go_sem]) rfl ?_
  exact ⟨rfl, (Below.refl _ _).alloc (Nat.le_refl _) _⟩

theorem knowD_inv {q : List Ins} (h : validB q = false) : knowD q = [] := by
  unfold knowD
  rw [if_neg]
  unfold knowE
  rw [if_pos (by rw [h])]
  decide
theorem made9_any (v : Value) (q : List Ins) (w : World) (hq : InsRow w w.heap.size v q) (hR : rightAll q = true) (en : Int) (he : (if validB q = true then knowE q else 3) = en) :
    Calls Try.prog 46 #[v] w fun e w' => ∃ v', e = .returned (.tuple #[v', .int .i64 en]) ∧ InsRow w' w'.heap.size v' (knowD q) ∧ Below w.heap.size w w' := by
  cases hv : validB q with
  | true =>
    rw [hv, if_pos rfl] at he
    exact made7_any v q w hq hv en he
  | false =>
    rw [hv, if_neg (by decide)] at he
    subst he
    obtain ⟨qa, qc, rfl⟩ := hq.len
    have kf := fits4_at false (by rw [← validB_fits hR]; exact hv) hq
    rw [knowD_inv hv]
    clear hq hR hv
    go_enter Try.func46, Try.ntmps46
    go_wp2_with fail
    refine kf.mono ?_
    rintro e w1 ⟨rfl, hb1⟩
    go_wp2
    refine bodyPost_ret (v := .tuple #[.slice none 0 0, .int .i64 3]) (by simp [results, Try.results46, go_sem]) rfl ?_
    exact ⟨_, rfl, row_nil _ _, hb1⟩
theorem defQ_built (d y n : List Ins) (W m : Nat) (hm : W = m + 1) : ((((((([⟨4, W, 0, 0, ⟨#[]⟩⟩, ⟨3, 0, 0, 0, ⟨#[]⟩⟩] ++ d) ++ [moveI (W + 1) 0]) ++ cleanK m) ++ [moveI 0 W, jumpI (W + 1) (3 + (y.length : Int))]) ++ y) ++ [setI (W + 1) ⟨#[49, 48, 48]⟩, jumpI (W + 1) (1 + (n.length : Int))]) ++ n) = defQ d y n W := by
  unfold defQ
  rw [show W - 1 = m by omega, Int.add_comm 3, Int.add_comm 1]
theorem cleanK_snoc (m : Nat) : cleanK (m + 1) = cleanK m ++ [setI (m + 1) ⟨#[48]⟩] := by unfold cleanK; rw [List.range_succ, List.map_append]; rfl
set_option maxRecDepth 20000 in
set_option maxHeartbeats 8000000 in
theorem rdefeat_due (en : Int) (vd vy vn : Value) (d y n : List Ins) (w : World) (hhD : InsRow w w.heap.size vd d) (hhY : InsRow w w.heap.size vy y) (hhN : InsRow w w.heap.size vn n) (hV : ∀ l ∈ [d, y, n], validB l = true) (he : defE d y n = en) :
    Calls Try.prog 59 #[vd, vy, vn] w fun e w' => ∃ v', e = .returned (.tuple #[v', .int .i64 en]) ∧ InsRow w' w'.heap.size v' (defD d y n) ∧ Below w.heap.size w w' := by
  obtain ⟨da, dc, rfl⟩ := hhD.len
  obtain ⟨ya, yc, rfl⟩ := hhY.len
  obtain ⟨na, nc, rfl⟩ := hhN.len
  have hD := Lib.hid hhD
  have hY := Lib.hid hhY
  have hN := Lib.hid hhN
  have HE := Lib.hid he
  have HALL := Lib.hid hV
  have hd4 := validB_len (hV d (by simp))
  have hy4 := validB_len (hV y (by simp))
  have hn4 := validB_len (hV n (by simp))
  have hrd := regN_le (validB_all (hV d (by simp)))
  have hry := regN_le (validB_all (hV y (by simp)))
  have hrn := regN_le (validB_all (hV n (by simp)))
  have kd := Lib.hid (fun v w hl => refRegs_ok v d w hl (hV d (by simp)))
  have ky := Lib.hid (fun v w hl => refRegs_ok v y w hl (hV y (by simp)))
  have kn := Lib.hid (fun v w hl => refRegs_ok v n w hl (hV n (by simp)))
  have HW := Lib.hid (show max (max (regN d) (regN y)) (regN n) = defW d y n from rfl)
  obtain ⟨D, hD0⟩ : ∃ D, regN d = D := ⟨_, rfl⟩
  obtain ⟨Y, hY0⟩ : ∃ D, regN y = D := ⟨_, rfl⟩
  obtain ⟨N, hN0⟩ : ∃ D, regN n = D := ⟨_, rfl⟩
  rw [hD0] at hrd kd HW
  rw [hY0] at hry ky HW
  rw [hN0] at hrn kn HW
  have hD1 : (D : Int) ≤ 32 ∧ (1 : Int) ≤ D := by omega
  have hY1 : (Y : Int) ≤ 32 ∧ (1 : Int) ≤ Y := by omega
  have hN1 : (N : Int) ≤ 32 ∧ (1 : Int) ≤ N := by omega
  have hy4I : (y.length : Int) ≤ 4000 := by omega
  have hn4I : (n.length : Int) ≤ 4000 := by omega
  have HD4 := Lib.hid hd4
  have HY4 := Lib.hid hy4
  have HN4 := Lib.hid hn4
  clear hhD hhY hhN he hV hd4 hy4 hn4 hrd hry hrn hD0 hY0 hN0
  have ch := Lib.hid (Below.refl w.heap.size w)
  go_enter Try.func59, Try.ntmps59
  go_wp2_with fail
  refine (kd.out _ _ hD.out).mono ?_
  rintro e w1 ⟨rfl, hq⟩
  have hD := Lib.hid ((hD.out.below hq).mono hq.size)
  have hY := Lib.hid ((hY.out.below hq).mono hq.size)
  have hN := Lib.hid ((hN.out.below hq).mono hq.size)
  have ch := Lib.hid (ch.out.trans (hq.mono ch.out.size))
  clear hq
  go_wp2_with fail
  refine (ky.out _ _ hY.out).mono ?_
  rintro e w2 ⟨rfl, hq⟩
  have hD := Lib.hid ((hD.out.below hq).mono hq.size)
  have hY := Lib.hid ((hY.out.below hq).mono hq.size)
  have hN := Lib.hid ((hN.out.below hq).mono hq.size)
  have ch := Lib.hid (ch.out.trans (hq.mono ch.out.size))
  clear hq
  go_wp2_with fail
  refine (kn.out _ _ hN.out).mono ?_
  rintro e w3 ⟨rfl, hq⟩
  have hD := Lib.hid ((hD.out.below hq).mono hq.size)
  have hY := Lib.hid ((hY.out.below hq).mono hq.size)
  have hN := Lib.hid ((hN.out.below hq).mono hq.size)
  have ch := Lib.hid (ch.out.trans (hq.mono ch.out.size))
  clear hq
  obtain ⟨W, hWW⟩ : ∃ W, max (max D Y) N = W := ⟨_, rfl⟩
  have hmx : ∀ (w : World) (ts : Array TypeId) (t : TypeId), (Builtin.max_ ts t #[.int .i64 D, .int .i64 Y, .int .i64 N]).run Try.prog w = .ok (.int .i64 W) w := by
    intro w ts t
    rw [Go.run_max_int3]
    congr 2
    split <;> split <;> omega
  rw [hWW] at HW
  have hW1 : (1 : Int) ≤ W ∧ (W : Int) ≤ 32 := by omega
  clear hWW
  by_cases hw : (30 : Int) < (W : Int)
  · have h8 : en = 8 := by rw [← HE.out, defE_all HALL.out, if_pos (by rw [← HW.out]; omega)]
    subst h8
    go_wp2
    refine bodyPost_ret (v := .tuple #[.slice none 0 0, .int .i64 8]) (by simp [results, Try.results59, go_sem]) rfl ?_
    refine ⟨_, rfl, ?_, ch.out⟩
    unfold defD
    rw [if_neg (by rw [HE.out]; decide)]
    exact row_nil _ _
  have hWI : (W : Int) ≤ 30 := by omega
  obtain ⟨m, hm⟩ : ∃ m, W = m + 1 := ⟨W - 1, by omega⟩
  have HM := Lib.hid hm
  have hmI : (W : Int) = (m : Int) + 1 := by omega
  have HMI := Lib.hid hmI
  clear hm hmI hD1 hY1 hN1 kd ky kn
  have q_hD := hD
  have q_hY := hY
  have q_hN := hN
  have rl := Lib.hid (Below.refl w3.heap.size w3)
  have hs0 := hD.out
  go_wp2_with (at_builtin; refine lit_row rfl _ _ rfl (vx := .slice da d.length dc) (n := 2) [⟨4, W, 0, 0, ⟨#[]⟩⟩, ⟨3, 0, 0, 0, ⟨#[]⟩⟩] rfl rfl ?c1 rfl hs0 ?c2 ?_)
  case c1 => simp only [List.forall_mem_cons, List.not_mem_nil, false_imp_iff, implies_true, and_true]; exact ⟨wf_lit _ _ _ _ _ (by unfold i64; decide) (by unfold i64; omega) (by unfold i64; decide) (by unfold i64; decide) (by decide), headI_wf⟩
  case c2 => have := HD4.out; have := HY4.out; have := HN4.out; have := HMI.out; first | omega | (simp [cleanK_len]; omega)
  clear hs0
  intro a4 k4 s4 w4 hk4 hO hb
  have rl := hb
  clear hb
  have hD := Lib.hid ((q_hD.out.below rl.out).mono rl.out.size)
  have hY := Lib.hid ((q_hY.out.below rl.out).mono rl.out.size)
  have hN := Lib.hid ((q_hN.out.below rl.out).mono rl.out.size)
  clear hmx
  go_wp2_with fail
  refine (r9move_any _ _ _).mono ?_
  rintro e w5 ⟨rfl, hq⟩
  have hO := Lib.hid (hO.out.below hq)
  have hD := Lib.hid ((hD.out.below hq).mono hq.size)
  have hY := Lib.hid ((hY.out.below hq).mono hq.size)
  have hN := Lib.hid ((hN.out.below hq).mono hq.size)
  have rl := Lib.hid (rl.out.trans (hq.mono rl.out.size))
  clear hq
  have ho0 := hO.out
  have hb0 := rl.out
  go_wp2_with (at_builtin; refine app_lit rfl _ _ rfl (v := .slice a4 k4 s4) (n := 1) [moveI (W + 1) 0] rfl ho0 rfl rfl ?c1 ?c2 hb0 ?_)
  case c1 => simp only [List.forall_mem_cons, List.not_mem_nil, false_imp_iff, implies_true, and_true]; exact moveI_wf _ _ (by omega) (by omega)
  case c2 => have := HD4.out; have := HY4.out; have := HN4.out; have := HMI.out; first | omega | (simp; omega)
  clear ho0 hb0 hO
  intro a6 k6 s6 w6 hk6 hO hb
  have rl := hb
  clear hb
  have hD := Lib.hid ((q_hD.out.below rl.out).mono rl.out.size)
  have hY := Lib.hid ((q_hY.out.below rl.out).mono rl.out.size)
  have hN := Lib.hid ((q_hN.out.below rl.out).mono rl.out.size)
  clear hD hY hN
  go_wp2
  have hq0 := Lib.hid (show OwnI w6 w3.heap.size (.slice a6 k6 s6) ((([⟨4, W, 0, 0, ⟨#[]⟩⟩, ⟨3, 0, 0, 0, ⟨#[]⟩⟩] ++ d) ++ [moveI (W + 1) 0]) ++ cleanK 0) ∧ Below w3.heap.size w3 w6 from ⟨by have h := hO.out; simpa [cleanK] using h, rl.out⟩)
  clear hO rl
  have chB := Lib.hid ch.out
  obtain ⟨L0, hL0⟩ : ∃ L, (([⟨4, W, 0, 0, ⟨#[]⟩⟩, ⟨3, 0, 0, 0, ⟨#[]⟩⟩] ++ d) ++ [moveI (W + 1) 0]) = L := ⟨_, rfl⟩
  have hl0 : L0.length ≤ 5000 := by rw [← hL0]; have := HD4.out; simp; omega
  rw [hL0] at hq0
  have HL0 := Lib.hid hL0
  clear hL0
  go_loopg [10, 11] m (fun gg o i wr => ∃ k : Nat, k ≤ m ∧ gg = m - k ∧ i = .int .i64 ((1 : Int) + k) ∧ Hid (OwnI wr w3.heap.size o (L0 ++ cleanK k) ∧ Below w3.heap.size w3 wr))
  case atStart => exact ⟨0, by omega, rfl, rfl, hq0.out⟩
  case round =>
    clear hq0
    obtain ⟨k, hk, hg, rfl, hP⟩ := hrel
    have HG := Lib.hid hg
    clear hg
    have hsz := hP.out.2.size
    by_cases hlt : k < m
    · have hi : (1 : Int) + (k : Int) < W := by have := HMI.out; omega
      go_wp2_with fail
      refine (r9set_any _ _ _).mono ?_
      rintro e v1 ⟨rfl, hb1⟩
      have hP := Lib.hid (show OwnI v1 w3.heap.size _ (L0 ++ cleanK k) ∧ Below w3.heap.size w3 v1 from ⟨hP.out.1.below hb1, hP.out.2.trans (hb1.mono hP.out.2.size)⟩)
      clear hb1 hsz
      have hown := hP.out.1.own
      have hlen : (L0 ++ cleanK k).length = L0.length + k := by simp [cleanK_len]
      rw [hlen] at hown
      have hb := hP.out.2
      have hsz := hb.size
      go_wp2_with (at_builtin; refine app_new el_ins rfl _ _ rfl rfl hown (inscells [setI (1 + k) ⟨#[48]⟩]) 1 rfl rfl ?c1 ?c2 ?c3 hsz hb (Nat.le_refl _) ?_)
      case c1 => exact inscells_one _
      case c2 => omega
      case c3 => unfold maxLen; omega
      intro v' w' hown' hb' hgr
      have hnew : Hid (OwnI w' w3.heap.size v' (L0 ++ cleanK (k + 1)) ∧ Below w3.heap.size w3 w') := Lib.hid ⟨by rw [cleanK_snoc, Nat.add_comm k 1, ← List.append_assoc]; exact OwnI.snoc (by rw [hlen]; exact hown') hP.out.1.wf (setI_wf _ _ (by omega) (by decide)), hb'⟩
      clear hown hown' hb hb' hgr hP hlen
      go_wp2
      go_roundg (m - (k + 1))
      case measure => rw [HG.out]; omega
      case rel => exact ⟨k + 1, by omega, rfl, by first | rfl | (congr 1; omega), hnew⟩
    · have hk5 : k = m := by omega
      have hi : ¬ ((1 : Int) + (k : Int) < W) := by have := HMI.out; omega
      subst hk5
      have hOl := Lib.hid hP.out.1
      have rl := Lib.hid hP.out.2
      have hY := Lib.hid ((q_hY.out.below rl.out).mono rl.out.size)
      have hN := Lib.hid ((q_hN.out.below rl.out).mono rl.out.size)
      clear hP hsz
      go_wp2_with fail
      refine (r9move_any _ _ _).mono ?_
      rintro e w7 ⟨rfl, hq⟩
      have hOl := Lib.hid (hOl.out.below hq)
      have hY := Lib.hid ((hY.out.below hq).mono hq.size)
      have hN := Lib.hid ((hN.out.below hq).mono hq.size)
      have rl := Lib.hid (rl.out.trans (hq.mono rl.out.size))
      clear hq
      go_wp2_with fail
      refine (r9jump_any _ _ _).mono ?_
      rintro e w8 ⟨rfl, hq⟩
      have hOl := Lib.hid (hOl.out.below hq)
      have hY := Lib.hid ((hY.out.below hq).mono hq.size)
      have hN := Lib.hid ((hN.out.below hq).mono hq.size)
      have rl := Lib.hid (rl.out.trans (hq.mono rl.out.size))
      clear hq
      have ho0 := hOl.out
      have hb0 := rl.out
      go_wp2_with (at_builtin; refine app_lit rfl _ _ rfl (v := _) (n := 2) [moveI 0 W, jumpI (W + 1) (3 + (y.length : Int))] rfl ho0 rfl rfl ?c1 ?c2 hb0 ?_)
      case c1 => simp only [List.forall_mem_cons, List.not_mem_nil, false_imp_iff, implies_true, and_true]; exact ⟨moveI_wf _ _ (by omega) (by omega), jumpI_wf _ _ (by omega) (by omega)⟩
      case c2 => have := HD4.out; have := HY4.out; have := HN4.out; have := HMI.out; first | omega | (simp [cleanK_len]; omega)
      clear ho0 hb0 hOl
      intro a9 k9 s9 w9 hk9 hOl hb
      have rl := hb
      clear hb
      have hY := Lib.hid ((q_hY.out.below rl.out).mono rl.out.size)
      have hN := Lib.hid ((q_hN.out.below rl.out).mono rl.out.size)
      have ho0 := hOl.out
      have hb0 := rl.out
      have hs0 := hY.out
      go_wp2_with (at_builtin; refine app_row rfl _ _ rfl (v := .slice a9 k9 s9) (vx := .slice ya y.length yc) rfl ho0 rfl hs0 ?c2 hb0 ?_)
      case c2 => have := HD4.out; have := HY4.out; have := HN4.out; have := HMI.out; first | omega | (simp [cleanK_len]; omega)
      clear ho0 hb0 hs0 hOl
      intro a10 k10 s10 w10 hk10 hOl hb
      have rl := hb
      clear hb
      have hY := Lib.hid ((q_hY.out.below rl.out).mono rl.out.size)
      have hN := Lib.hid ((q_hN.out.below rl.out).mono rl.out.size)
      go_wp2_with fail
      refine (r9set_any _ _ _).mono ?_
      rintro e w11 ⟨rfl, hq⟩
      have hOl := Lib.hid (hOl.out.below hq)
      have hY := Lib.hid ((hY.out.below hq).mono hq.size)
      have hN := Lib.hid ((hN.out.below hq).mono hq.size)
      have rl := Lib.hid (rl.out.trans (hq.mono rl.out.size))
      clear hq
      go_wp2_with fail
      refine (r9jump_any _ _ _).mono ?_
      rintro e w12 ⟨rfl, hq⟩
      have hOl := Lib.hid (hOl.out.below hq)
      have hY := Lib.hid ((hY.out.below hq).mono hq.size)
      have hN := Lib.hid ((hN.out.below hq).mono hq.size)
      have rl := Lib.hid (rl.out.trans (hq.mono rl.out.size))
      clear hq
      have ho0 := hOl.out
      have hb0 := rl.out
      go_wp2_with (at_builtin; refine app_lit rfl _ _ rfl (v := .slice a10 k10 s10) (n := 2) [setI (W + 1) ⟨#[49, 48, 48]⟩, jumpI (W + 1) (1 + (n.length : Int))] rfl ho0 rfl rfl ?c1 ?c2 hb0 ?_)
      case c1 => simp only [List.forall_mem_cons, List.not_mem_nil, false_imp_iff, implies_true, and_true]; exact ⟨wf_lit _ _ _ _ _ (by unfold i64; decide) (by unfold i64; omega) (by unfold i64; decide) (by unfold i64; decide) (by decide), jumpI_wf _ _ (by omega) (by omega)⟩
      case c2 => have := HD4.out; have := HY4.out; have := HN4.out; have := HMI.out; first | omega | (simp [cleanK_len]; omega)
      clear ho0 hb0 hOl
      intro a13 k13 s13 w13 hk13 hOl hb
      have rl := hb
      clear hb
      have hY := Lib.hid ((q_hY.out.below rl.out).mono rl.out.size)
      have hN := Lib.hid ((q_hN.out.below rl.out).mono rl.out.size)
      have ho0 := hOl.out
      have hb0 := rl.out
      have hs0 := hN.out
      go_wp2_with (at_builtin; refine app_row rfl _ _ rfl (v := .slice a13 k13 s13) (vx := .slice na n.length nc) rfl ho0 rfl hs0 ?c2 hb0 ?_)
      case c2 => have := HD4.out; have := HY4.out; have := HN4.out; have := HMI.out; first | omega | (simp [cleanK_len]; omega)
      clear ho0 hb0 hs0 hOl
      intro a14 k14 s14 w14 hk14 hOl hb
      have rl := hb
      clear hb
      have hY := Lib.hid ((q_hY.out.below rl.out).mono rl.out.size)
      have hN := Lib.hid ((q_hN.out.below rl.out).mono rl.out.size)
      have hWH := HW.out
      have hOl := Lib.hid (show OwnI _ _ _ (defQ d y n (defW d y n)) from by
        have h := hOl.out
        rw [← hWH, ← defQ_built d y n W _ HM.out]
        rw [← HL0.out] at h
        simpa only [List.append_assoc, List.cons_append, List.nil_append] using h)
      have hlQ : (defQ d y n (defW d y n)).length ≤ 20000 := by rw [defQ_length _ _ _ _ (defW_pos d y n)]; have := HD4.out; have := HY4.out; have := HN4.out; omega
      have hR := Lib.hid (hOl.out.row (by omega))
      have hRR := Lib.hid (defQ_right (validB_all (HALL.out d (by simp))) (validB_all (HALL.out y (by simp))) (validB_all (HALL.out n (by simp))) (defW_pos d y n) (by omega))
      have hEn := Lib.hid (show (if validB (defQ d y n (defW d y n)) = true then knowE (defQ d y n (defW d y n)) else 3) = en by rw [← HE.out, defE_all HALL.out, if_neg (show ¬ 30 < defW d y n by omega)])
      have hDD := Lib.hid (show defD d y n = knowD (defQ d y n (defW d y n)) by
        unfold defD
        rw [defE_all HALL.out, if_neg (show ¬ 30 < defW d y n by omega)]
        cases hvq : validB (defQ d y n (defW d y n)) with
        | true => simp [knowD]
        | false => rw [knowD_inv hvq]; simp)
      have ch := Lib.hid (chB.out.trans (rl.out.mono chB.out.size))
      clear hWH hlQ rl hOl
      go_wp2_with fail
      refine (made9_any _ _ _ hR.out hRR.out en hEn.out).mono ?_
      rintro e wk ⟨vk, rfl, hK, hq⟩
      obtain ⟨ka2, kc2, rfl⟩ := hK.len
      have hK := Lib.hid hK
      have ch := Lib.hid (ch.out.trans (hq.mono ch.out.size))
      clear hq
      go_wp2
      refine bodyPost_ret (v := .tuple #[.slice ka2 (knowD (defQ d y n (defW d y n))).length kc2, .int .i64 en]) (by simp [results, Try.results59, go_sem]) rfl ?_
      exact ⟨_, rfl, by rw [hDD.out]; exact hK.out, ch.out⟩
set_option maxHeartbeats 4000000 in
theorem rliar_due (en : Int) (vh : Value) (h : List Ins) (w : World) (hhH : InsRow w w.heap.size vh h) (hV : validB h = true) (he : liarE h = en) :
    Calls Try.prog 62 #[vh] w fun e w' => ∃ v', e = .returned (.tuple #[v', .int .i64 en]) ∧ InsRow w' w'.heap.size v' (liarD h) ∧ Below w.heap.size w w' := by
  obtain ⟨ha, hc, rfl⟩ := hhH.len
  have hH := Lib.hid hhH
  have h4 := validB_len hV
  have hRR := Lib.hid (liarQ_right (validB_all hV))
  have hEn := Lib.hid (show (if validB (liarQ h) = true then knowE (liarQ h) else 3) = en by rw [← he]; unfold liarE; rw [if_pos hV])
  have hDD := Lib.hid (show liarD h = knowD (liarQ h) by
    unfold liarD liarE
    rw [if_pos hV]
    cases hvq : validB (liarQ h) with
    | true => simp [knowD]
    | false => rw [knowD_inv hvq]; simp)
  clear hhH hV he
  have ch := Lib.hid (Below.refl w.heap.size w)
  go_enter Try.func62, Try.ntmps62
  go_wp2_with fail
  have q_hH := hH
  have rl := Lib.hid (Below.refl w.heap.size w)
  refine (twin_own _ _ _ hH.out).mono ?_
  rintro e w1 ⟨ta, tc, rfl, hO, hq⟩
  have hO := Lib.hid hO
  have rl := Lib.hid (rl.out.trans hq)
  clear hq hH
  go_wp2_with fail
  refine (r9jump_any _ _ _).mono ?_
  rintro e w2 ⟨rfl, hq⟩
  have hO := Lib.hid (hO.out.below hq)
  have rl := Lib.hid (rl.out.trans (hq.mono rl.out.size))
  clear hq
  have ho0 := hO.out
  have hb0 := rl.out
  go_wp2_with (at_builtin; refine app_lit rfl _ _ rfl (v := .slice ta h.length tc) (n := 1) [jumpI 0 0] rfl ho0 rfl rfl ?c1 ?c2 hb0 ?_)
  case c1 => simp only [List.forall_mem_cons, List.not_mem_nil, false_imp_iff, implies_true, and_true]; exact jumpI_wf _ _ (by omega) (by omega)
  case c2 => omega
  clear ho0 hb0 hO
  intro a3 k3 s3 w3 hk3 hO hb
  have rl := hb
  clear hb
  have hR := Lib.hid (show InsRow _ _ _ (liarQ h) from hO.out.row (by simp; omega))
  have ch := Lib.hid (ch.out.trans (rl.out.mono ch.out.size))
  go_wp2_with fail
  refine (made9_any _ _ _ hR.out hRR.out en hEn.out).mono ?_
  rintro e wk ⟨vk, rfl, hK, hq⟩
  obtain ⟨ka2, kc2, rfl⟩ := hK.len
  have hK := Lib.hid hK
  have ch := Lib.hid (ch.out.trans (hq.mono ch.out.size))
  clear hq
  go_wp2
  refine bodyPost_ret (v := .tuple #[.slice ka2 (knowD (liarQ h)).length kc2, .int .i64 en]) (by simp [results, Try.results62, go_sem]) rfl ?_
  exact ⟨_, rfl, by rw [hDD.out]; exact hK.out, ch.out⟩
end Go.Proofs.Ytaiomcjopgnfpaa


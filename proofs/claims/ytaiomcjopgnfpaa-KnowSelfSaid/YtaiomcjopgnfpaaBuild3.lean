/- Programs out of programs: the reference's Pair, If, While. -/
import Derived.Test.YtaiomcjopgnfpaaApp
namespace Go.Proofs.Ytaiomcjopgnfpaa
open Go.RowKit

set_option maxHeartbeats 4000000 in
theorem refPair_ok (v u : Value) (p q : List Ins) (w : World) (hp : InsRow w w.heap.size v p) (hq : InsRow w w.heap.size u q) (hvp : validB p = true) (hvq : validB q = true) :
    Calls Try.prog 41 #[v, u] w fun e w' => ∃ v', e = .returned v' ∧ OwnI w' w.heap.size v' (pairL p q) ∧ Below w.heap.size w w' := by
  have hp4 := validB_len hvp
  have hq4 := validB_len hvq
  have hrp := regN_le (validB_all hvp)
  have hrq := regN_le (validB_all hvq)
  have hP := Lib.hid hp
  have hQ := Lib.hid hq
  have kp := refRegs_ok v p w hp hvp
  clear hp hq
  obtain ⟨a, ha⟩ : ∃ a, regN p = a := ⟨_, rfl⟩
  obtain ⟨b, hb⟩ : ∃ b, regN q = b := ⟨_, rfl⟩
  have HA := Lib.hid ha
  have HB := Lib.hid hb
  rw [ha] at kp hrp
  rw [hb] at hrq
  have hmq := mostN_lt (validB_all hvq) q.length (Nat.le_refl _)
  rw [mostN_all] at hmq
  obtain ⟨n, hn⟩ : ∃ n, max a b = n := ⟨_, rfl⟩
  have hnI : max (a : Int) (b : Int) = (n : Int) := by omega
  have hn32 : n ≤ 32 := by omega
  have HN := Lib.hid hn
  have hlen := cleanP_length q
  have HLC := Lib.hid hlen
  clear ha hb hn hlen
  have ch := Lib.hid (Below.refl w.heap.size w)
  go_enter Try.func41, Try.ntmps41
  go_wp2_with fail
  refine (kp).mono ?_
  rintro e w1 ⟨rfl, hq⟩
  have hP := Lib.hid ((hP.out.below hq).mono hq.size)
  have hQ := Lib.hid ((hQ.out.below hq).mono hq.size)
  have ch := Lib.hid (ch.out.trans (hq.mono ch.out.size))
  clear hq
  clear kp
  have kq := refRegs_ok u q _ hQ.out hvq
  rw [HB.out] at kq
  go_wp2_with fail
  refine (kq).mono ?_
  rintro e w2 ⟨rfl, hq⟩
  have hP := Lib.hid ((hP.out.below hq).mono hq.size)
  have hQ := Lib.hid ((hQ.out.below hq).mono hq.size)
  have ch := Lib.hid (ch.out.trans (hq.mono ch.out.size))
  clear hq
  clear kq
  go_wp2_with fail
  refine (rmove_any (n : Nat) 0 _).mono ?_
  rintro e w3 ⟨rfl, hq⟩
  have hP := Lib.hid ((hP.out.below hq).mono hq.size)
  have hQ := Lib.hid ((hQ.out.below hq).mono hq.size)
  have ch := Lib.hid (ch.out.trans (hq.mono ch.out.size))
  clear hq
  have q_hP := hP
  have q_hQ := hQ
  have rl := Lib.hid (Below.refl w3.heap.size w3)
  have hs0 := hP.out
  go_wp2_with (at_builtin; refine lit_row rfl _ _ rfl (vx := v) (n := 1) [moveI n 0] rfl rfl ?c1 rfl hs0 ?c2 ?_)
  case c1 => simp; exact moveI_wf _ _ (by omega) (by omega)
  case c2 => omega
  clear hs0
  intro a4 k4 s4 w4 hk4 ho hb
  have rl := hb
  clear hb
  have hP := Lib.hid ((q_hP.out.below rl.out).mono rl.out.size)
  have hQ := Lib.hid ((q_hQ.out.below rl.out).mono rl.out.size)
  have hl1 : ([moveI n 0] ++ p).length = 1 + p.length := by simp; omega
  have ho := Lib.hid ho.out
  have s1 : IntKind.i64.wrap ((n : Int) + 1) = (n : Int) + 1 := IntWalk.i64_in _ (by omega)
  go_wp2_with fail
  refine (rmove_any ((n : Int) + 1) 0 _).mono ?_
  rintro e w5 ⟨rfl, hq⟩
  have hP := Lib.hid ((hP.out.below hq).mono hq.size)
  have hQ := Lib.hid ((hQ.out.below hq).mono hq.size)
  have ho := Lib.hid (ho.out.below hq)
  have rl := Lib.hid (rl.out.trans (hq.mono rl.out.size))
  clear hq
  go_wp2_with fail
  refine (rmove_any 0 (n : Nat) _).mono ?_
  rintro e w6 ⟨rfl, hq⟩
  have hP := Lib.hid ((hP.out.below hq).mono hq.size)
  have hQ := Lib.hid ((hQ.out.below hq).mono hq.size)
  have ho := Lib.hid (ho.out.below hq)
  have rl := Lib.hid (rl.out.trans (hq.mono rl.out.size))
  clear hq
  have ho0 := ho.out
  have hb0 := rl.out
  go_wp2_with (at_builtin; refine app_lit rfl _ _ rfl (v := .slice a4 k4 s4) (n := 2) [moveI (n + 1) 0, moveI 0 n] rfl ho0 rfl rfl ?c1 ?c2 hb0 ?_)
  case c1 => simp; exact ⟨moveI_wf _ _ (by omega) (by omega), moveI_wf _ _ (by omega) (by omega)⟩
  case c2 => simp; omega
  clear ho0 hb0 ho
  intro a7 k7 s7 w7 hk7 ho hb
  have rl := hb
  clear hb
  have hP := Lib.hid ((q_hP.out.below rl.out).mono rl.out.size)
  have hQ := Lib.hid ((q_hQ.out.below rl.out).mono rl.out.size)
  have hl2 : ([moveI n 0] ++ p ++ [moveI (n + 1) 0, moveI 0 n]).length = 3 + p.length := by simp; omega
  go_wp2_with fail
  refine (refclean_ok u q _ hQ.out hvq).mono ?_
  rintro e w8 ⟨vc, rfl, hC0, hq⟩
  have hP := Lib.hid ((hP.out.below hq).mono hq.size)
  have hQ := Lib.hid ((hQ.out.below hq).mono hq.size)
  have ho := Lib.hid (ho.out.below hq)
  have rl := Lib.hid (rl.out.trans (hq.mono rl.out.size))
  clear hq
  have hC := Lib.hid (hC0.row (by rw [HLC.out]; omega))
  clear hC0
  have ho0 := ho.out
  have hb0 := rl.out
  have hs0 := hC.out
  go_wp2_with (at_builtin; refine app_row rfl _ _ rfl (v := .slice a7 k7 s7) (vx := vc) rfl ho0 rfl hs0 ?c2 hb0 ?_)
  case c2 => simp [HLC.out]; omega
  clear ho0 hb0 hs0 ho
  intro a9 k9 s9 w9 hk9 ho hb
  have rl := hb
  clear hb
  have hP := Lib.hid ((q_hP.out.below rl.out).mono rl.out.size)
  have hQ := Lib.hid ((q_hQ.out.below rl.out).mono rl.out.size)
  clear hC
  have hl3 : ([moveI n 0] ++ p ++ [moveI (n + 1) 0, moveI 0 n] ++ cleanP q).length = 3 + p.length + (mostN q + q.length) := by rw [List.length_append, hl2, HLC.out]
  have ho0 := ho.out
  have hb0 := rl.out
  go_wp2_with (at_builtin; refine app_lit rfl _ _ rfl (v := .slice a9 k9 s9) (n := 1) [consI 0 (n + 1) 0] rfl ho0 rfl rfl ?c1 ?c2 hb0 ?_)
  case c1 => simp; exact consI_wf _ _ _ (by omega) (by omega) (by omega)
  case c2 => simp [HLC.out]; omega
  clear ho0 hb0 ho
  intro a10 k10 s10 w10 hk10 ho hb
  have rl := hb
  clear hb
  have hP := Lib.hid ((q_hP.out.below rl.out).mono rl.out.size)
  have hQ := Lib.hid ((q_hQ.out.below rl.out).mono rl.out.size)
  go_wp2
  go_ret
  have hch := ch.out.trans (rl.out.mono ch.out.size)
  have heq : pairL p q = [moveI n 0] ++ p ++ [moveI (n + 1) 0, moveI 0 n] ++ cleanP q ++ [consI 0 (n + 1) 0] := by unfold pairL; simp only [HA.out, HB.out, HN.out]; rfl
  exact ⟨.slice a10 k10 s10, rfl, by rw [heq]; have h9 := ho.out.lower ch.out.size; simpa using h9, hch⟩
theorem refclean_len (v : Value) (l : List Ins) (w : World) (hl : InsRow w w.heap.size v l) (hv : validB l = true) :
    Calls Try.prog 73 #[v] w fun e w' => ∃ a k c, e = .returned (.slice a k c) ∧ Hid (k = mostN l + l.length ∧ mostN l < 32) ∧ InsRow w' w'.heap.size (.slice a k c) (cleanP l) ∧ Below w.heap.size w w' := by
  have hn4 := validB_len hv
  have hm := mostN_lt (validB_all hv) l.length (Nat.le_refl _)
  rw [mostN_all] at hm
  refine (refclean_ok v l w hl hv).mono ?_
  rintro e w' ⟨v', rfl, h1, h2⟩
  have h3 := h1.row (by rw [cleanP_length]; omega)
  obtain ⟨a, c, rfl⟩ := h3.len
  rw [cleanP_length] at h3 ⊢
  exact ⟨a, _, c, rfl, Lib.hid ⟨rfl, hm⟩, h3, h2⟩

set_option maxHeartbeats 4000000 in
theorem refIf_ok (x v u : Value) (c p q : List Ins) (w : World) (hc : InsRow w w.heap.size x c) (hp : InsRow w w.heap.size v p) (hq : InsRow w w.heap.size u q) (hvc : validB c = true) (hvp : validB p = true) (hvq : validB q = true) :
    Calls Try.prog 43 #[x, v, u] w fun e w' => ∃ v', e = .returned v' ∧ OwnI w' w.heap.size v' (ifL c p q) ∧ Below w.heap.size w w' := by
  have hc4 := validB_len hvc
  have hp4 := validB_len hvp
  have hq4 := validB_len hvq
  have hrc := regN_le (validB_all hvc)
  have hrp := regN_le (validB_all hvp)
  have hrq := regN_le (validB_all hvq)
  have hC := Lib.hid hc
  have hP := Lib.hid hp
  have hQ := Lib.hid hq
  clear hc hp hq
  obtain ⟨a, ha⟩ : ∃ a, regN c = a := ⟨_, rfl⟩
  obtain ⟨b, hb⟩ : ∃ b, regN p = b := ⟨_, rfl⟩
  obtain ⟨d, hd⟩ : ∃ d, regN q = d := ⟨_, rfl⟩
  rw [ha] at hrc
  rw [hb] at hrp
  rw [hd] at hrq
  have HA := Lib.hid ha
  have HB := Lib.hid hb
  have HD := Lib.hid hd
  obtain ⟨n, hn⟩ : ∃ n, max a (max b d) = n := ⟨_, rfl⟩
  have hn32 : n ≤ 32 := by omega
  have HN := Lib.hid hn
  clear ha hb hd hn
  have ch := Lib.hid (Below.refl w.heap.size w)
  go_enter Try.func43, Try.ntmps43
  have kr := refRegs_ok x c _ hC.out hvc
  rw [HA.out] at kr
  go_wp2_with fail
  refine (kr).mono ?_
  rintro e w1 ⟨rfl, hq⟩
  have hC := Lib.hid ((hC.out.below hq).mono hq.size)
  have hP := Lib.hid ((hP.out.below hq).mono hq.size)
  have hQ := Lib.hid ((hQ.out.below hq).mono hq.size)
  have ch := Lib.hid (ch.out.trans (hq.mono ch.out.size))
  clear hq
  clear kr
  have kr := refRegs_ok v p _ hP.out hvp
  rw [HB.out] at kr
  go_wp2_with fail
  refine (kr).mono ?_
  rintro e w2 ⟨rfl, hq⟩
  have hC := Lib.hid ((hC.out.below hq).mono hq.size)
  have hP := Lib.hid ((hP.out.below hq).mono hq.size)
  have hQ := Lib.hid ((hQ.out.below hq).mono hq.size)
  have ch := Lib.hid (ch.out.trans (hq.mono ch.out.size))
  clear hq
  clear kr
  have kr := refRegs_ok u q _ hQ.out hvq
  rw [HD.out] at kr
  go_wp2_with fail
  refine (kr).mono ?_
  rintro e w3 ⟨rfl, hq⟩
  have hC := Lib.hid ((hC.out.below hq).mono hq.size)
  have hP := Lib.hid ((hP.out.below hq).mono hq.size)
  have hQ := Lib.hid ((hQ.out.below hq).mono hq.size)
  have ch := Lib.hid (ch.out.trans (hq.mono ch.out.size))
  clear hq
  clear kr
  go_wp2_with fail
  all_goals (
    first | (have e9 : (d : Int) = (n : Int) := (by have := HN.out; first | omega | (simp_all; omega)); rw [e9]) | (have e9 : (b : Int) = (n : Int) := (by have := HN.out; first | omega | (simp_all; omega)); rw [e9]) | (have e9 : (a : Int) = (n : Int) := (by have := HN.out; first | omega | (simp_all; omega)); rw [e9])
    clear e9
    refine (refclean_len v p _ hP.out hvp).mono ?_
    rintro e w4 ⟨ya, ky, yc, rfl, hky, hY, hq⟩
    have hC := Lib.hid ((hC.out.below hq).mono hq.size)
    have hP := Lib.hid ((hP.out.below hq).mono hq.size)
    have hQ := Lib.hid ((hQ.out.below hq).mono hq.size)
    have ch := Lib.hid (ch.out.trans (hq.mono ch.out.size))
    clear hq
    have hY := Lib.hid hY
    go_wp2_with fail
    refine (refclean_len u q _ hQ.out hvq).mono ?_
    rintro e w5 ⟨na, kn, nc, rfl, hkn, hNo, hq⟩
    have hC := Lib.hid ((hC.out.below hq).mono hq.size)
    have hP := Lib.hid ((hP.out.below hq).mono hq.size)
    have hQ := Lib.hid ((hQ.out.below hq).mono hq.size)
    have hY := Lib.hid ((hY.out.below hq).mono hq.size)
    have ch := Lib.hid (ch.out.trans (hq.mono ch.out.size))
    clear hq
    have hNo := Lib.hid hNo
    have hkyI : (ky : Int) ≤ 5000 := by have := hky.out; omega
    have hknI : (kn : Int) ≤ 5000 := by have := hkn.out; omega
    have hky0 : (0 : Int) ≤ (ky : Int) := Int.natCast_nonneg _
    have hkn0 : (0 : Int) ≤ (kn : Int) := Int.natCast_nonneg _
    go_wp2_with fail
    refine (rmove_any (n : Nat) 0 _).mono ?_
    rintro e w6 ⟨rfl, hq⟩
    have hC := Lib.hid ((hC.out.below hq).mono hq.size)
    have hP := Lib.hid ((hP.out.below hq).mono hq.size)
    have hQ := Lib.hid ((hQ.out.below hq).mono hq.size)
    have hY := Lib.hid ((hY.out.below hq).mono hq.size)
    have hNo := Lib.hid ((hNo.out.below hq).mono hq.size)
    have ch := Lib.hid (ch.out.trans (hq.mono ch.out.size))
    clear hq
    have q_hC := hC
    have q_hP := hP
    have q_hQ := hQ
    have q_hY := hY
    have q_hNo := hNo
    have rl := Lib.hid (Below.refl w6.heap.size w6)
    have hs0 := hC.out
    go_wp2_with (at_builtin; refine lit_row rfl _ _ rfl (vx := x) (n := 1) [moveI n 0] rfl rfl ?c1 rfl hs0 ?c2 ?_)
    case c1 => simp; exact moveI_wf _ _ (by omega) (by omega)
    case c2 => omega
    clear hs0
    intro a7 k7 s7 w7 hk7 ho hb
    have rl := hb
    clear hb
    have hC := Lib.hid ((q_hC.out.below rl.out).mono rl.out.size)
    have hP := Lib.hid ((q_hP.out.below rl.out).mono rl.out.size)
    have hQ := Lib.hid ((q_hQ.out.below rl.out).mono rl.out.size)
    have hY := Lib.hid ((q_hY.out.below rl.out).mono rl.out.size)
    have hNo := Lib.hid ((q_hNo.out.below rl.out).mono rl.out.size)
    go_wp2_with fail
    refine (rjump_any 0 ((kn : Int) + 4) _).mono ?_
    rintro e w8 ⟨rfl, hq⟩
    have hC := Lib.hid ((hC.out.below hq).mono hq.size)
    have hP := Lib.hid ((hP.out.below hq).mono hq.size)
    have hQ := Lib.hid ((hQ.out.below hq).mono hq.size)
    have hY := Lib.hid ((hY.out.below hq).mono hq.size)
    have hNo := Lib.hid ((hNo.out.below hq).mono hq.size)
    have ho := Lib.hid (ho.out.below hq)
    have rl := Lib.hid (rl.out.trans (hq.mono rl.out.size))
    clear hq
    go_wp2_with fail
    refine (rmove_any 0 (n : Nat) _).mono ?_
    rintro e w9 ⟨rfl, hq⟩
    have hC := Lib.hid ((hC.out.below hq).mono hq.size)
    have hP := Lib.hid ((hP.out.below hq).mono hq.size)
    have hQ := Lib.hid ((hQ.out.below hq).mono hq.size)
    have hY := Lib.hid ((hY.out.below hq).mono hq.size)
    have hNo := Lib.hid ((hNo.out.below hq).mono hq.size)
    have ho := Lib.hid (ho.out.below hq)
    have rl := Lib.hid (rl.out.trans (hq.mono rl.out.size))
    clear hq
    have ho0 := ho.out
    have hb0 := rl.out
    go_wp2_with (at_builtin; refine app_lit rfl _ _ rfl (v := .slice a7 k7 s7) (n := 2) [jumpI 0 ((kn : Int) + 4), moveI 0 n] rfl ho0 rfl rfl ?c1 ?c2 hb0 ?_)
    case c1 => simp; exact ⟨jumpI_wf _ _ (by omega) (by omega), moveI_wf _ _ (by omega) (by omega)⟩
    case c2 => simp; omega
    clear ho0 hb0 ho
    intro a10 k10 s10 w10 hk10 ho hb
    have rl := hb
    clear hb
    have hC := Lib.hid ((q_hC.out.below rl.out).mono rl.out.size)
    have hP := Lib.hid ((q_hP.out.below rl.out).mono rl.out.size)
    have hQ := Lib.hid ((q_hQ.out.below rl.out).mono rl.out.size)
    have hY := Lib.hid ((q_hY.out.below rl.out).mono rl.out.size)
    have hNo := Lib.hid ((q_hNo.out.below rl.out).mono rl.out.size)
    have ho0 := ho.out
    have hb0 := rl.out
    have hs0 := hNo.out
    go_wp2_with (at_builtin; refine app_row rfl _ _ rfl (v := .slice a10 k10 s10) (vx := .slice na kn nc) rfl ho0 rfl hs0 ?c2 hb0 ?_)
    case c2 => simp [cleanP_length]; have := hkn.out; omega
    clear ho0 hb0 hs0 ho
    intro a11 k11 s11 w11 hk11 ho hb
    have rl := hb
    clear hb
    have hC := Lib.hid ((q_hC.out.below rl.out).mono rl.out.size)
    have hP := Lib.hid ((q_hP.out.below rl.out).mono rl.out.size)
    have hQ := Lib.hid ((q_hQ.out.below rl.out).mono rl.out.size)
    have hY := Lib.hid ((q_hY.out.below rl.out).mono rl.out.size)
    have hNo := Lib.hid ((q_hNo.out.below rl.out).mono rl.out.size)
    go_wp2_with fail
    refine (rset_any (n : Nat) ⟨#[49, 48, 48]⟩ _).mono ?_
    rintro e w12 ⟨rfl, hq⟩
    have hC := Lib.hid ((hC.out.below hq).mono hq.size)
    have hP := Lib.hid ((hP.out.below hq).mono hq.size)
    have hQ := Lib.hid ((hQ.out.below hq).mono hq.size)
    have hY := Lib.hid ((hY.out.below hq).mono hq.size)
    have hNo := Lib.hid ((hNo.out.below hq).mono hq.size)
    have ho := Lib.hid (ho.out.below hq)
    have rl := Lib.hid (rl.out.trans (hq.mono rl.out.size))
    clear hq
    go_wp2_with fail
    refine (rjump_any (n : Nat) ((ky : Int) + 2) _).mono ?_
    rintro e w13 ⟨rfl, hq⟩
    have hC := Lib.hid ((hC.out.below hq).mono hq.size)
    have hP := Lib.hid ((hP.out.below hq).mono hq.size)
    have hQ := Lib.hid ((hQ.out.below hq).mono hq.size)
    have hY := Lib.hid ((hY.out.below hq).mono hq.size)
    have hNo := Lib.hid ((hNo.out.below hq).mono hq.size)
    have ho := Lib.hid (ho.out.below hq)
    have rl := Lib.hid (rl.out.trans (hq.mono rl.out.size))
    clear hq
    go_wp2_with fail
    refine (rmove_any 0 (n : Nat) _).mono ?_
    rintro e w14 ⟨rfl, hq⟩
    have hC := Lib.hid ((hC.out.below hq).mono hq.size)
    have hP := Lib.hid ((hP.out.below hq).mono hq.size)
    have hQ := Lib.hid ((hQ.out.below hq).mono hq.size)
    have hY := Lib.hid ((hY.out.below hq).mono hq.size)
    have hNo := Lib.hid ((hNo.out.below hq).mono hq.size)
    have ho := Lib.hid (ho.out.below hq)
    have rl := Lib.hid (rl.out.trans (hq.mono rl.out.size))
    clear hq
    have ho0 := ho.out
    have hb0 := rl.out
    go_wp2_with (at_builtin; refine app_lit rfl _ _ rfl (v := .slice a11 k11 s11) (n := 3) [setI n ⟨#[49, 48, 48]⟩, jumpI n ((ky : Int) + 2), moveI 0 n] rfl ho0 rfl rfl ?c1 ?c2 hb0 ?_)
    case c1 => simp; exact ⟨setI_wf _ _ (by omega) (by decide), jumpI_wf _ _ (by omega) (by omega), moveI_wf _ _ (by omega) (by omega)⟩
    case c2 => simp [cleanP_length]; have := hkn.out; omega
    clear ho0 hb0 ho
    intro a15 k15 s15 w15 hk15 ho hb
    have rl := hb
    clear hb
    have hC := Lib.hid ((q_hC.out.below rl.out).mono rl.out.size)
    have hP := Lib.hid ((q_hP.out.below rl.out).mono rl.out.size)
    have hQ := Lib.hid ((q_hQ.out.below rl.out).mono rl.out.size)
    have hY := Lib.hid ((q_hY.out.below rl.out).mono rl.out.size)
    have hNo := Lib.hid ((q_hNo.out.below rl.out).mono rl.out.size)
    have ho0 := ho.out
    have hb0 := rl.out
    have hs0 := hY.out
    go_wp2_with (at_builtin; refine app_row rfl _ _ rfl (v := .slice a15 k15 s15) (vx := .slice ya ky yc) rfl ho0 rfl hs0 ?c2 hb0 ?_)
    case c2 => simp [cleanP_length]; have := hkn.out; have := hky.out; omega
    clear ho0 hb0 hs0 ho
    intro a16 k16 s16 w16 hk16 ho hb
    have rl := hb
    clear hb
    have hC := Lib.hid ((q_hC.out.below rl.out).mono rl.out.size)
    have hP := Lib.hid ((q_hP.out.below rl.out).mono rl.out.size)
    have hQ := Lib.hid ((q_hQ.out.below rl.out).mono rl.out.size)
    have hY := Lib.hid ((q_hY.out.below rl.out).mono rl.out.size)
    have hNo := Lib.hid ((q_hNo.out.below rl.out).mono rl.out.size)
    go_wp2
    go_ret
    have hch := ch.out.trans (rl.out.mono ch.out.size)
    have heq : ifL c p q = [moveI n 0] ++ c ++ [jumpI 0 ((kn : Int) + 4), moveI 0 n] ++ cleanP q ++ [setI n ⟨#[49, 48, 48]⟩, jumpI n ((ky : Int) + 2), moveI 0 n] ++ cleanP p := by unfold ifL; simp only [HA.out, HB.out, HD.out, HN.out, cleanP_length, hky.out.1, hkn.out.1]; rfl
    exact ⟨.slice a16 k16 s16, rfl, by rw [heq]; have h9 := ho.out.lower ch.out.size; simpa using h9, hch⟩)
set_option maxHeartbeats 4000000 in
theorem refWhile_ok (x v : Value) (c p : List Ins) (w : World) (hc : InsRow w w.heap.size x c) (hp : InsRow w w.heap.size v p) (hvc : validB c = true) (hvp : validB p = true) :
    Calls Try.prog 42 #[x, v] w fun e w' => ∃ v', e = .returned v' ∧ OwnI w' w.heap.size v' (whileL c p) ∧ Below w.heap.size w w' := by
  have hc4 := validB_len hvc
  have hp4 := validB_len hvp
  have hrc := regN_le (validB_all hvc)
  have hrp := regN_le (validB_all hvp)
  have hC := Lib.hid hc
  have hP := Lib.hid hp
  clear hc hp
  obtain ⟨a, ha⟩ : ∃ a, regN c = a := ⟨_, rfl⟩
  obtain ⟨b, hb⟩ : ∃ b, regN p = b := ⟨_, rfl⟩
  rw [ha] at hrc
  rw [hb] at hrp
  have HA := Lib.hid ha
  have HB := Lib.hid hb
  obtain ⟨n, hn⟩ : ∃ n, max a b = n := ⟨_, rfl⟩
  have hnI : max (a : Int) (b : Int) = (n : Int) := by omega
  have hn32 : n ≤ 32 := by omega
  have HN := Lib.hid hn
  clear ha hb hn
  have ch := Lib.hid (Below.refl w.heap.size w)
  go_enter Try.func42, Try.ntmps42
  have kr := refRegs_ok x c _ hC.out hvc
  rw [HA.out] at kr
  go_wp2_with fail
  refine (kr).mono ?_
  rintro e w1 ⟨rfl, hq⟩
  have hC := Lib.hid ((hC.out.below hq).mono hq.size)
  have hP := Lib.hid ((hP.out.below hq).mono hq.size)
  have ch := Lib.hid (ch.out.trans (hq.mono ch.out.size))
  clear hq
  clear kr
  have kr := refRegs_ok v p _ hP.out hvp
  rw [HB.out] at kr
  go_wp2_with fail
  refine (kr).mono ?_
  rintro e w2 ⟨rfl, hq⟩
  have hC := Lib.hid ((hC.out.below hq).mono hq.size)
  have hP := Lib.hid ((hP.out.below hq).mono hq.size)
  have ch := Lib.hid (ch.out.trans (hq.mono ch.out.size))
  clear hq
  clear kr
  go_wp2_with fail
  refine (refclean_len v p _ hP.out hvp).mono ?_
  rintro e w3 ⟨ya, ky, yc, rfl, hky, hY, hq⟩
  have hC := Lib.hid ((hC.out.below hq).mono hq.size)
  have hP := Lib.hid ((hP.out.below hq).mono hq.size)
  have ch := Lib.hid (ch.out.trans (hq.mono ch.out.size))
  clear hq
  have hY := Lib.hid hY
  have hkyI : (ky : Int) ≤ 5000 := by have := hky.out; omega
  have hky0 : (0 : Int) ≤ (ky : Int) := Int.natCast_nonneg _
  go_wp2_with fail
  refine (rmove_any (n : Nat) 0 _).mono ?_
  rintro e w4 ⟨rfl, hq⟩
  have hC := Lib.hid ((hC.out.below hq).mono hq.size)
  have hP := Lib.hid ((hP.out.below hq).mono hq.size)
  have hY := Lib.hid ((hY.out.below hq).mono hq.size)
  have ch := Lib.hid (ch.out.trans (hq.mono ch.out.size))
  clear hq
  go_wp2_with fail
  have q_hC := hC
  have q_hP := hP
  have q_hY := hY
  have rl := Lib.hid (Below.refl w4.heap.size w4)
  obtain ⟨w5, hW⟩ : ∃ B, w4.alloc (.cells #[.int .i64 1, .int .i64 (n : Nat), .int .i64 0, .int .i64 0, .string ⟨#[]⟩] 52) = B := ⟨_, rfl⟩
  rw [hW]
  have hq : Below w4.heap.size w4 w5 := by rw [← hW]; exact (Below.refl _ _).alloc (Nat.le_refl _) _
  have ho := Lib.hid (show OwnI w5 w4.heap.size (.slice (some ⟨w4.heap.size, 0, none⟩) 1 1) [moveI n 0] by rw [← hW]; exact OwnI.lit w4 [moveI n 0] (by simp; exact moveI_wf _ _ (by omega) (by omega)) (by simp))
  clear hW
  have hC := Lib.hid ((hC.out.below hq).mono hq.size)
  have hP := Lib.hid ((hP.out.below hq).mono hq.size)
  have hY := Lib.hid ((hY.out.below hq).mono hq.size)
  have rl := Lib.hid (rl.out.trans (hq.mono rl.out.size))
  clear hq
  refine (refclean_len x c _ hC.out hvc).mono ?_
  rintro e w6 ⟨na, kn, nc, rfl, hkn, hNo, hq⟩
  have hC := Lib.hid ((hC.out.below hq).mono hq.size)
  have hP := Lib.hid ((hP.out.below hq).mono hq.size)
  have hY := Lib.hid ((hY.out.below hq).mono hq.size)
  have ho := Lib.hid (ho.out.below hq)
  have rl := Lib.hid (rl.out.trans (hq.mono rl.out.size))
  clear hq
  have hNo := Lib.hid hNo
  have ho0 := ho.out
  have hb0 := rl.out
  have hs0 := hNo.out
  go_wp2_with (at_builtin; refine app_row rfl _ _ rfl (v := .slice (some ⟨w4.heap.size, 0, none⟩) 1 1) (vx := .slice na kn nc) rfl ho0 rfl hs0 ?c2 hb0 ?_)
  case c2 => simp [cleanP_length]; have := hkn.out; omega
  clear ho0 hb0 hs0 ho
  intro a7 k7 s7 w7 hk7 ho hb
  have rl := hb
  clear hb
  have hC := Lib.hid ((q_hC.out.below rl.out).mono rl.out.size)
  have hP := Lib.hid ((q_hP.out.below rl.out).mono rl.out.size)
  have hY := Lib.hid ((q_hY.out.below rl.out).mono rl.out.size)
  clear hNo
  go_wp2_with fail
  refine (rjump_any 0 4 _).mono ?_
  rintro e w8 ⟨rfl, hq⟩
  have hC := Lib.hid ((hC.out.below hq).mono hq.size)
  have hP := Lib.hid ((hP.out.below hq).mono hq.size)
  have hY := Lib.hid ((hY.out.below hq).mono hq.size)
  have ho := Lib.hid (ho.out.below hq)
  have rl := Lib.hid (rl.out.trans (hq.mono rl.out.size))
  clear hq
  go_wp2_with fail
  refine (rmove_any 0 (n : Nat) _).mono ?_
  rintro e w9 ⟨rfl, hq⟩
  have hC := Lib.hid ((hC.out.below hq).mono hq.size)
  have hP := Lib.hid ((hP.out.below hq).mono hq.size)
  have hY := Lib.hid ((hY.out.below hq).mono hq.size)
  have ho := Lib.hid (ho.out.below hq)
  have rl := Lib.hid (rl.out.trans (hq.mono rl.out.size))
  clear hq
  go_wp2_with fail
  refine (rset_any (n : Nat) ⟨#[49, 48, 48]⟩ _).mono ?_
  rintro e w10 ⟨rfl, hq⟩
  have hC := Lib.hid ((hC.out.below hq).mono hq.size)
  have hP := Lib.hid ((hP.out.below hq).mono hq.size)
  have hY := Lib.hid ((hY.out.below hq).mono hq.size)
  have ho := Lib.hid (ho.out.below hq)
  have rl := Lib.hid (rl.out.trans (hq.mono rl.out.size))
  clear hq
  have ho0 := ho.out
  have hb0 := rl.out
  go_wp2_with (at_builtin; refine app_lit rfl _ _ rfl (v := .slice a7 k7 s7) (n := 3) [jumpI 0 4, moveI 0 n, setI n ⟨#[49, 48, 48]⟩] rfl ho0 rfl rfl ?c1 ?c2 hb0 ?_)
  case c1 => simp; exact ⟨jumpI_wf _ _ (by omega) (by omega), moveI_wf _ _ (by omega) (by omega), setI_wf _ _ (by omega) (by decide)⟩
  case c2 => simp [cleanP_length]; have := hkn.out; omega
  clear ho0 hb0 ho
  intro a11 k11 s11 w11 hk11 ho hb
  have rl := hb
  clear hb
  have hC := Lib.hid ((q_hC.out.below rl.out).mono rl.out.size)
  have hP := Lib.hid ((q_hP.out.below rl.out).mono rl.out.size)
  have hY := Lib.hid ((q_hY.out.below rl.out).mono rl.out.size)
  go_wp2_with fail
  refine (rjump_any (n : Nat) ((ky : Int) + 4) _).mono ?_
  rintro e w12 ⟨rfl, hq⟩
  have hC := Lib.hid ((hC.out.below hq).mono hq.size)
  have hP := Lib.hid ((hP.out.below hq).mono hq.size)
  have hY := Lib.hid ((hY.out.below hq).mono hq.size)
  have ho := Lib.hid (ho.out.below hq)
  have rl := Lib.hid (rl.out.trans (hq.mono rl.out.size))
  clear hq
  go_wp2_with fail
  refine (rmove_any 0 (n : Nat) _).mono ?_
  rintro e w13 ⟨rfl, hq⟩
  have hC := Lib.hid ((hC.out.below hq).mono hq.size)
  have hP := Lib.hid ((hP.out.below hq).mono hq.size)
  have hY := Lib.hid ((hY.out.below hq).mono hq.size)
  have ho := Lib.hid (ho.out.below hq)
  have rl := Lib.hid (rl.out.trans (hq.mono rl.out.size))
  clear hq
  have ho0 := ho.out
  have hb0 := rl.out
  go_wp2_with (at_builtin; refine app_lit rfl _ _ rfl (v := .slice a11 k11 s11) (n := 2) [jumpI n ((ky : Int) + 4), moveI 0 n] rfl ho0 rfl rfl ?c1 ?c2 hb0 ?_)
  case c1 => simp; exact ⟨jumpI_wf _ _ (by omega) (by omega), moveI_wf _ _ (by omega) (by omega)⟩
  case c2 => simp [cleanP_length]; have := hkn.out; omega
  clear ho0 hb0 ho
  intro a14 k14 s14 w14 hk14 ho hb
  have rl := hb
  clear hb
  have hC := Lib.hid ((q_hC.out.below rl.out).mono rl.out.size)
  have hP := Lib.hid ((q_hP.out.below rl.out).mono rl.out.size)
  have hY := Lib.hid ((q_hY.out.below rl.out).mono rl.out.size)
  have ho0 := ho.out
  have hb0 := rl.out
  have hs0 := hY.out
  go_wp2_with (at_builtin; refine app_row rfl _ _ rfl (v := .slice a14 k14 s14) (vx := .slice ya ky yc) rfl ho0 rfl hs0 ?c2 hb0 ?_)
  case c2 => simp [cleanP_length]; have := hkn.out; have := hky.out; omega
  clear ho0 hb0 hs0 ho
  intro a15 k15 s15 w15 hk15 ho hb
  have rl := hb
  clear hb
  have hC := Lib.hid ((q_hC.out.below rl.out).mono rl.out.size)
  have hP := Lib.hid ((q_hP.out.below rl.out).mono rl.out.size)
  have hY := Lib.hid ((q_hY.out.below rl.out).mono rl.out.size)
  go_wp2_with fail
  refine (rset_any (n : Nat) ⟨#[49, 48, 48]⟩ _).mono ?_
  rintro e w16 ⟨rfl, hq⟩
  have hC := Lib.hid ((hC.out.below hq).mono hq.size)
  have hP := Lib.hid ((hP.out.below hq).mono hq.size)
  have hY := Lib.hid ((hY.out.below hq).mono hq.size)
  have ho := Lib.hid (ho.out.below hq)
  have rl := Lib.hid (rl.out.trans (hq.mono rl.out.size))
  clear hq
  have ho0 := ho.out
  have hb0 := rl.out
  go_wp2_with (at_builtin; refine app_lit rfl _ _ rfl (v := .slice a15 k15 s15) (n := 1) [setI n ⟨#[49, 48, 48]⟩] rfl ho0 rfl rfl ?c1 ?c2 hb0 ?_)
  case c1 => simp; exact setI_wf _ _ (by omega) (by decide)
  case c2 => simp [cleanP_length]; have := hkn.out; have := hky.out; omega
  clear ho0 hb0 ho
  intro a17 k17 s17 w17 hk17 ho hb
  have rl := hb
  clear hb
  have hC := Lib.hid ((q_hC.out.below rl.out).mono rl.out.size)
  have hP := Lib.hid ((q_hP.out.below rl.out).mono rl.out.size)
  have hY := Lib.hid ((q_hY.out.below rl.out).mono rl.out.size)
  have hwh : whileH c p = [moveI n 0] ++ cleanP c ++ [jumpI 0 4, moveI 0 n, setI n ⟨#[49, 48, 48]⟩] ++ [jumpI n ((ky : Int) + 4), moveI 0 n] ++ cleanP p ++ [setI n ⟨#[49, 48, 48]⟩] := by unfold whileH; simp only [HA.out, HB.out, HN.out, cleanP_length, hky.out.1]; simp
  have hlw : Hid ((whileH c p).length = k17) := Lib.hid (by rw [hwh]; have h8 := hk17.out; simp [cleanP_length] at h8 ⊢; have := hkn.out; omega)
  have hkw : (k17 : Int) ≤ 20000 := by have h8 := hk17.out; simp [cleanP_length] at h8; have := hkn.out; have := hky.out; omega
  have hkw0 : (0 : Int) ≤ (k17 : Int) := Int.natCast_nonneg _
  have ho := Lib.hid (show OwnI _ _ _ (whileH c p) by rw [hwh]; have h9 := ho.out; simpa using h9)
  clear hwh
  go_wp2_with fail
  refine (rjump_any (n : Nat) (-(k17 : Int)) _).mono ?_
  rintro e w18 ⟨rfl, hq⟩
  have hC := Lib.hid ((hC.out.below hq).mono hq.size)
  have hP := Lib.hid ((hP.out.below hq).mono hq.size)
  have hY := Lib.hid ((hY.out.below hq).mono hq.size)
  have ho := Lib.hid (ho.out.below hq)
  have rl := Lib.hid (rl.out.trans (hq.mono rl.out.size))
  clear hq
  have ho0 := ho.out
  have hb0 := rl.out
  go_wp2_with (at_builtin; refine app_lit rfl _ _ rfl (v := .slice a17 k17 s17) (n := 1) [jumpI n (-(k17 : Int))] rfl ho0 rfl rfl ?c1 ?c2 hb0 ?_)
  case c1 => simp; exact jumpI_wf _ _ (by omega) (by omega)
  case c2 => rw [hlw.out]; omega
  clear ho0 hb0 ho
  intro a19 k19 s19 w19 hk19 ho hb
  have rl := hb
  clear hb
  have hC := Lib.hid ((q_hC.out.below rl.out).mono rl.out.size)
  have hP := Lib.hid ((q_hP.out.below rl.out).mono rl.out.size)
  have hY := Lib.hid ((q_hY.out.below rl.out).mono rl.out.size)
  go_wp2
  go_ret
  have hch := ch.out.trans (rl.out.mono ch.out.size)
  have heq : whileL c p = whileH c p ++ [jumpI n (-(k17 : Int))] := by unfold whileL; rw [HA.out, HB.out, HN.out, hlw.out]
  exact ⟨.slice a19 k19 s19, rfl, by rw [heq]; have h9 := ho.out.lower ch.out.size; simpa using h9, hch⟩
end Go.Proofs.Ytaiomcjopgnfpaa


/- narcissustop: supplies, TopSpec. -/
import Derived.Test.YtlaeljkjdfffjaaTop5
import Derived.Test.YtlaeljkjdfffjaaTop8
import Derived.Test.YtlaeljkjdfffjaaMeta1
import Derived.Test.YtlaeljkjdfffjaaMB3
import Derived.Test.YtlaeljkjdfffjaaKnowFit
namespace Go.Proofs.Ytlaeljkjdfffjaa
open Go.RowKit

theorem spec_start (d : ByteArray) (p : List Ins) (D x : Tr) (hd : toTr d = D) (hs : (Tr.pair D x).size ≤ 2000000) : Runs (specL d p) 3 (startS x) ⟨3, (startS (.pair D x)).regs⟩ := by
  have h0 : Runs (specL d p) 1 (startS x) ⟨1, x :: D :: List.replicate 30 .nil⟩ := set_run 1 d D _ _ rfl hd rfl
  have h1 : Runs (specL d p) 1 ⟨1, x :: D :: List.replicate 30 .nil⟩ ⟨2, .pair D x :: D :: List.replicate 30 .nil⟩ := cons_run 0 1 0 D x _ _ rfl rfl rfl hs rfl
  have h2 : Runs (specL d p) 1 ⟨2, .pair D x :: D :: List.replicate 30 .nil⟩ ⟨3, (startS (.pair D x)).regs⟩ := set_run 1 ⟨#[48]⟩ .nil _ _ rfl tr_nil rfl
  exact (h0.trans h1).trans h2
theorem spec_follow {p : List Ins} (hp : rightAll p = true) (d : ByteArray) (D x : Tr) (hd : toTr d = D) (hs : (Tr.pair D x).size ≤ 2000000) : FollowP (specL d p) x p (.pair D x) 3 :=
  follow_of (k := 3) (spec_start d p D x hd hs) (Seg.right (specH d) p) hp (by rw [specL_length]; omega) hs
def s100 : ByteArray := ⟨#[49, 48, 48]⟩
def hdP : List Ins := [⟨3, 0, 0, 0, ⟨#[]⟩⟩]
theorem hdP_valid : validB hdP = true := by decide +kernel
theorem hdP_wf : ∀ x ∈ hdP, x.wf := by
  intro x hx
  simp [hdP] at hx
  subst hx
  exact wf_lit _ _ _ _ _ (by unfold i64; decide) (by unfold i64; decide) (by unfold i64; decide) (by unfold i64; decide) (by decide)
theorem s100_tree : isTree s100 = true := by decide +kernel
theorem s100_grow : growB s100 10 = true := by decide +kernel
theorem hdS_valid : validB (specL s100 hdP) = true := by decide +kernel
theorem hdS_run : ∃ s, goF (specL s100 hdP) 4 0 (startS .nil) = .done s 4 ∧ getR s.regs 0 = toTr s100 := by
  have h1 := spec_start s100 hdP (.pair .nil .nil) .nil tr_100 (by decide)
  have h2 : Runs (specL s100 hdP) 1 ⟨3, (startS (.pair (.pair .nil .nil) .nil)).regs⟩ ⟨4, .pair .nil .nil :: List.replicate 31 .nil⟩ := head_run 0 0 (.pair .nil .nil) _ _ rfl rfl rfl
  exact ⟨_, (h1.trans h2).done rfl 4 (Nat.le_refl _), tr_100.symm⟩
theorem tplay_doneM {v x : Value} {l : List Ins} {t : Tr} {m : Nat} (k : Nat) (K : Int) (hKk : K = k) (hK : k ≤ 100000000) {R : Tr} (hR : ∃ s, goF l k 0 (startS t) = .done s m ∧ getR s.regs 0 = R) {w : World} (hl : InsRow w w.heap.size v l) (hv : validB l = true) (hx : NodeP 102 w t x) (ht : t.size ≤ 2000000) :
    Calls Try.prog 19 #[v, x, .int .i64 K] w fun e w' => ∃ q, e = .returned (.tuple #[.pointer q, .int .i64 m, .int .i64 0]) ∧ NodeP 102 w' R (.pointer q) ∧ Below w.heap.size w w' := by
  obtain ⟨s, h1, rfl⟩ := hR
  exact tplay_done k K hKk hK h1 hl hv hx ht
theorem tequal_same {t : Tr} {va vb : Value} {w : World} (h1 : NodeP 102 w t va) (h2 : NodeP 102 w t vb) (hs : t.size ≤ 4000001) :
    Calls Try.prog 22 #[va, vb] w fun e w' => e = .returned (.bool true) ∧ Below w.heap.size w w' :=
  (tequal_any t t va vb w h1 h2 hs hs).mono fun e w' h => ⟨by rw [h.1]; simp, h.2⟩

set_option maxRecDepth 20000 in
set_option maxHeartbeats 8000000 in
theorem supplies_any (w : World) : Calls Try.prog 48 #[] w fun e w' => e = .returned (.bool true) ∧ Below w.heap.size w w' := by
  have ch := Lib.hid (Below.refl w.heap.size w)
  go_enter Try.func48, Try.ntmps48
  go_wp2_with fail
  obtain ⟨wL, hW⟩ : ∃ B, w.alloc (.cells #[.int .i64 3, .int .i64 0, .int .i64 0, .int .i64 0, .string ⟨#[]⟩] 41) = B := ⟨_, rfl⟩
  rw [hW]
  have hq : Below w.heap.size w wL := by rw [← hW]; exact (Below.refl _ _).alloc (Nat.le_refl _) _
  have h1 := Lib.hid (show InsRow wL wL.heap.size (.slice (some ⟨w.heap.size, 0, none⟩) 1 1) hdP by rw [← hW]; exact (OwnI.lit w hdP hdP_wf (by decide)).row (by decide))
  clear hW
  replace ch := Lib.hid (ch.out.trans (hq.mono ch.out.size))
  clear hq
  refine (spec_fine _ hdP s100 _ h1.out hdP_valid s100_tree hdS_valid).mono ?_
  rintro e w1 ⟨vs, rfl, hS, hq⟩
  replace ch := Lib.hid (ch.out.trans (hq.mono ch.out.size))
  clear hq
  replace hS := Lib.hid hS
  clear h1
  go_wp2_with fail
  refine (tgrow_yes (by decide) (by decide) s100_grow _).mono ?_
  rintro e w2 ⟨py, rfl, hY, hq⟩
  replace hS := Lib.hid ((hS.out.below hq).mono hq.size)
  replace ch := Lib.hid (ch.out.trans (hq.mono ch.out.size))
  clear hq
  replace hY := Lib.hid hY
  go_wp2_with fail
  refine (treturns_ok 4 _ rfl (by omega) hS.out hdS_valid (show NodeP 102 _ .nil (.pointer none) from rfl) hY.out (by decide) hdS_run).mono ?_
  rintro e w3 ⟨rfl, hq⟩
  replace hS := Lib.hid ((hS.out.below hq).mono hq.size)
  replace hY := Lib.hid (hY.out.kept (Kept.below hq))
  replace ch := Lib.hid (ch.out.trans (hq.mono ch.out.size))
  clear hq
  go_wp2
  go_ret
  exact ⟨rfl, ch.out⟩

set_option maxRecDepth 20000 in
set_option maxHeartbeats 8000000 in
theorem ts_a {w : World} (vp : Value) (p : List Ins) (hhp : InsRow w w.heap.size vp p) (d : ByteArray) (hds : d.size ≤ 140737488355328) (x : ByteArray) (hxs : x.size ≤ 140737488355328) (HD : Hid (growB d 2000 = false)) (HX : Hid (growB x 2000 = false)) : Calls Try.prog 12 #[vp, .string d, .string x] w fun e w' => e = .returned (.bool true) ∧ Below w.heap.size w w' := by
  obtain ⟨pa, pc, rfl⟩ := hhp.len
  obtain ⟨pn, hpn⟩ : ∃ z, p.length = z := ⟨_, rfl⟩
  rw [hpn] at hhp ⊢
  have hp := Lib.hid hhp
  have HPN := Lib.hid hpn
  clear hhp hpn
  clear hp
  have ch := Lib.hid (Below.refl w.heap.size w)
  go_enter Try.func12, Try.ntmps12
  go_wp2_with fail
  refine (tgrow_any d hds 2000 (by omega) _).mono ?_
  rintro e w1 ⟨pd, rfl, _, _, hq⟩
  rw [HD.out]
  replace ch := Lib.hid (ch.out.trans (hq.mono ch.out.size))
  clear hq
  go_wp2_with fail
  refine (tgrow_any x hxs 2000 (by omega) _).mono ?_
  rintro e w2 ⟨px, rfl, _, _, hq⟩
  rw [HX.out]
  replace ch := Lib.hid (ch.out.trans (hq.mono ch.out.size))
  clear hq
  go_wp2_with fail
  refine (meta_any _).mono ?_
  rintro e w3 ⟨vm, rfl, hm, hq⟩
  replace ch := Lib.hid (ch.out.trans (hq.mono ch.out.size))
  clear hq
  obtain ⟨ma, mc, rfl⟩ := hm.slice
  replace hm := Lib.hid (hm.row (by decide))
  go_wp2_with fail
  refine (twhole_any _ metaL true meta_valid _ hm.out).mono ?_
  rintro e w4 ⟨rfl, hq⟩
  replace hm := Lib.hid ((hm.out.below hq).mono hq.size)
  replace ch := Lib.hid (ch.out.trans (hq.mono ch.out.size))
  clear hq
  go_wp2_with fail
  refine (supplies_any _).mono ?_
  rintro e w5 ⟨rfl, hq⟩
  replace hm := Lib.hid ((hm.out.below hq).mono hq.size)
  replace ch := Lib.hid (ch.out.trans (hq.mono ch.out.size))
  clear hq
  go_wp2
  go_ret
  exact ⟨rfl, ch.out⟩

set_option maxRecDepth 20000 in
set_option maxHeartbeats 8000000 in
theorem ts_b {w : World} (vp : Value) (p : List Ins) (hhp : InsRow w w.heap.size vp p) (d : ByteArray) (hds : d.size ≤ 140737488355328) (x : ByteArray) (hxs : x.size ≤ 140737488355328) (HD : Hid (growB d 2000 = false)) (HX : Hid (growB x 2000 = true)) : Calls Try.prog 12 #[vp, .string d, .string x] w fun e w' => e = .returned (.bool true) ∧ Below w.heap.size w w' := by
  obtain ⟨pa, pc, rfl⟩ := hhp.len
  obtain ⟨pn, hpn⟩ : ∃ z, p.length = z := ⟨_, rfl⟩
  rw [hpn] at hhp ⊢
  have hp := Lib.hid hhp
  have HPN := Lib.hid hpn
  clear hhp hpn
  clear hp
  have ch := Lib.hid (Below.refl w.heap.size w)
  go_enter Try.func12, Try.ntmps12
  go_wp2_with fail
  refine (tgrow_any d hds 2000 (by omega) _).mono ?_
  rintro e w1 ⟨pd, rfl, _, _, hq⟩
  rw [HD.out]
  replace ch := Lib.hid (ch.out.trans (hq.mono ch.out.size))
  clear hq
  go_wp2_with fail
  refine (tgrow_yes hxs (by omega) HX.out _).mono ?_
  rintro e w2 ⟨px, rfl, hX, hq⟩
  replace ch := Lib.hid (ch.out.trans (hq.mono ch.out.size))
  clear hq
  replace hX := Lib.hid hX
  go_wp2_with fail
  refine (meta_any _).mono ?_
  rintro e w3 ⟨vm, rfl, hm, hq⟩
  replace ch := Lib.hid (ch.out.trans (hq.mono ch.out.size))
  clear hq
  obtain ⟨ma, mc, rfl⟩ := hm.slice
  replace hm := Lib.hid (hm.row (by decide))
  go_wp2_with fail
  refine (twhole_any _ metaL true meta_valid _ hm.out).mono ?_
  rintro e w4 ⟨rfl, hq⟩
  replace hm := Lib.hid ((hm.out.below hq).mono hq.size)
  replace ch := Lib.hid (ch.out.trans (hq.mono ch.out.size))
  clear hq
  go_wp2_with fail
  refine (supplies_any _).mono ?_
  rintro e w5 ⟨rfl, hq⟩
  replace hm := Lib.hid ((hm.out.below hq).mono hq.size)
  replace ch := Lib.hid (ch.out.trans (hq.mono ch.out.size))
  clear hq
  go_wp2
  go_ret
  exact ⟨rfl, ch.out⟩

set_option maxRecDepth 20000 in
set_option maxHeartbeats 8000000 in
theorem ts_c {w : World} (vp : Value) (p : List Ins) (hhp : InsRow w w.heap.size vp p) (d : ByteArray) (hds : d.size ≤ 140737488355328) (x : ByteArray) (hxs : x.size ≤ 140737488355328) (HD : Hid (growB d 2000 = true)) (HX : Hid (growB x 2000 = false)) : Calls Try.prog 12 #[vp, .string d, .string x] w fun e w' => e = .returned (.bool true) ∧ Below w.heap.size w w' := by
  obtain ⟨pa, pc, rfl⟩ := hhp.len
  obtain ⟨pn, hpn⟩ : ∃ z, p.length = z := ⟨_, rfl⟩
  rw [hpn] at hhp ⊢
  have hp := Lib.hid hhp
  have HPN := Lib.hid hpn
  clear hhp hpn
  clear hp
  have ch := Lib.hid (Below.refl w.heap.size w)
  go_enter Try.func12, Try.ntmps12
  go_wp2_with fail
  refine (tgrow_yes hds (by omega) HD.out _).mono ?_
  rintro e w1 ⟨pd, rfl, hD, hq⟩
  replace ch := Lib.hid (ch.out.trans (hq.mono ch.out.size))
  clear hq
  replace hD := Lib.hid hD
  go_wp2_with fail
  refine (tgrow_any x hxs 2000 (by omega) _).mono ?_
  rintro e w2 ⟨px, rfl, _, _, hq⟩
  rw [HX.out]
  replace hD := Lib.hid (hD.out.kept (Kept.below hq))
  replace ch := Lib.hid (ch.out.trans (hq.mono ch.out.size))
  clear hq
  go_wp2_with fail
  refine (meta_any _).mono ?_
  rintro e w3 ⟨vm, rfl, hm, hq⟩
  replace ch := Lib.hid (ch.out.trans (hq.mono ch.out.size))
  clear hq
  obtain ⟨ma, mc, rfl⟩ := hm.slice
  replace hm := Lib.hid (hm.row (by decide))
  go_wp2_with fail
  refine (twhole_any _ metaL true meta_valid _ hm.out).mono ?_
  rintro e w4 ⟨rfl, hq⟩
  replace hm := Lib.hid ((hm.out.below hq).mono hq.size)
  replace ch := Lib.hid (ch.out.trans (hq.mono ch.out.size))
  clear hq
  go_wp2_with fail
  refine (supplies_any _).mono ?_
  rintro e w5 ⟨rfl, hq⟩
  replace hm := Lib.hid ((hm.out.below hq).mono hq.size)
  replace ch := Lib.hid (ch.out.trans (hq.mono ch.out.size))
  clear hq
  go_wp2
  go_ret
  exact ⟨rfl, ch.out⟩

set_option maxRecDepth 20000 in
set_option maxHeartbeats 8000000 in
theorem ts_d {w : World} (vp : Value) (p : List Ins) (hhp : InsRow w w.heap.size vp p) (d : ByteArray) (hds : d.size ≤ 140737488355328) (x : ByteArray) (hxs : x.size ≤ 140737488355328) (HD : Hid (growB d 2000 = true)) (HX : Hid (growB x 2000 = true)) (HG : Hid (goodB p 200 5000 = false)) : Calls Try.prog 12 #[vp, .string d, .string x] w fun e w' => e = .returned (.bool true) ∧ Below w.heap.size w w' := by
  obtain ⟨pa, pc, rfl⟩ := hhp.len
  obtain ⟨pn, hpn⟩ : ∃ z, p.length = z := ⟨_, rfl⟩
  rw [hpn] at hhp ⊢
  have hp := Lib.hid hhp
  have HPN := Lib.hid hpn
  clear hhp hpn
  have ch := Lib.hid (Below.refl w.heap.size w)
  go_enter Try.func12, Try.ntmps12
  have ZD := Lib.hid (show (toTr d).size ≤ 2000 by rw [growB_size HD.out]; exact (growB_tree HD.out).2)
  have ZX := Lib.hid (show (toTr x).size ≤ 2000 by rw [growB_size HX.out]; exact (growB_tree HX.out).2)
  go_wp2_with fail
  refine (tgrow_yes hds (by omega) HD.out _).mono ?_
  rintro e w1 ⟨pd, rfl, hD, hq⟩
  replace hp := Lib.hid ((hp.out.below hq).mono hq.size)
  replace ch := Lib.hid (ch.out.trans (hq.mono ch.out.size))
  clear hq
  replace hD := Lib.hid hD
  go_wp2_with fail
  refine (tgrow_yes hxs (by omega) HX.out _).mono ?_
  rintro e w2 ⟨px, rfl, hX, hq⟩
  replace hp := Lib.hid ((hp.out.below hq).mono hq.size)
  replace hD := Lib.hid (hD.out.kept (Kept.below hq))
  replace ch := Lib.hid (ch.out.trans (hq.mono ch.out.size))
  clear hq
  replace hX := Lib.hid hX
  go_wp2_with fail
  refine (meta_any _).mono ?_
  rintro e w3 ⟨vm, rfl, hm, hq⟩
  replace hp := Lib.hid ((hp.out.below hq).mono hq.size)
  replace hD := Lib.hid (hD.out.kept (Kept.below hq))
  replace hX := Lib.hid (hX.out.kept (Kept.below hq))
  replace ch := Lib.hid (ch.out.trans (hq.mono ch.out.size))
  clear hq
  obtain ⟨ma, mc, rfl⟩ := hm.slice
  replace hm := Lib.hid (hm.row (by decide))
  go_wp2_with fail
  refine (twhole_any _ metaL true meta_valid _ hm.out).mono ?_
  rintro e w4 ⟨rfl, hq⟩
  replace hp := Lib.hid ((hp.out.below hq).mono hq.size)
  replace hD := Lib.hid (hD.out.kept (Kept.below hq))
  replace hX := Lib.hid (hX.out.kept (Kept.below hq))
  replace hm := Lib.hid ((hm.out.below hq).mono hq.size)
  replace ch := Lib.hid (ch.out.trans (hq.mono ch.out.size))
  clear hq
  go_wp2_with fail
  refine (tpair_ok _ _ _ _ _ hX.out hD.out (by have := ZX.out; omega) (by have := ZD.out; omega)).mono ?_
  rintro e w5 ⟨gi, rfl, hI, hq⟩
  replace hp := Lib.hid ((hp.out.below hq).mono hq.size)
  replace hD := Lib.hid (hD.out.kept (Kept.below hq))
  replace hX := Lib.hid (hX.out.kept (Kept.below hq))
  replace hm := Lib.hid ((hm.out.below hq).mono hq.size)
  replace ch := Lib.hid (ch.out.trans (hq.mono ch.out.size))
  clear hq
  replace hI := Lib.hid hI
  go_wp2_with fail
  refine (tplay_doneM 100 _ rfl (by omega) (meta_small (toTr x) (toTr d) (by have := ZX.out; have := ZD.out; omega) 100 (by omega)) hm.out meta_valid hI.out (by simp only [Tr.size]; have := ZX.out; have := ZD.out; omega)).mono ?_
  rintro e w6 ⟨qz, rfl, hZ, hq⟩
  replace hp := Lib.hid ((hp.out.below hq).mono hq.size)
  replace hD := Lib.hid (hD.out.kept (Kept.below hq))
  replace hX := Lib.hid (hX.out.kept (Kept.below hq))
  replace hm := Lib.hid ((hm.out.below hq).mono hq.size)
  replace hI := Lib.hid (hI.out.kept (Kept.below hq))
  replace ch := Lib.hid (ch.out.trans (hq.mono ch.out.size))
  clear hq
  replace hZ := Lib.hid hZ
  have n1s : (Tr.num 1).size = 3 := rfl
  have n2s : (Tr.num 2).size = 5 := rfl
  have n0s : (Tr.num 0).size = 1 := rfl
  have N1S := Lib.hid n1s
  have N2S := Lib.hid n2s
  have N0S := Lib.hid n0s
  clear n1s n2s n0s
  go_wp2_with fail
  refine (tnum_at 0 0 rfl (by omega) _).mono ?_
  rintro e w7 ⟨qA0, rfl, hA0, hq⟩
  replace hp := Lib.hid ((hp.out.below hq).mono hq.size)
  replace hD := Lib.hid (hD.out.kept (Kept.below hq))
  replace hX := Lib.hid (hX.out.kept (Kept.below hq))
  replace hm := Lib.hid ((hm.out.below hq).mono hq.size)
  replace hI := Lib.hid (hI.out.kept (Kept.below hq))
  replace hZ := Lib.hid (hZ.out.kept (Kept.below hq))
  replace ch := Lib.hid (ch.out.trans (hq.mono ch.out.size))
  clear hq
  replace hA0 := Lib.hid hA0
  go_wp2_with fail
  refine (tnum_at 1 1 rfl (by omega) _).mono ?_
  rintro e w8 ⟨qA1, rfl, hA1, hq⟩
  replace hp := Lib.hid ((hp.out.below hq).mono hq.size)
  replace hD := Lib.hid (hD.out.kept (Kept.below hq))
  replace hX := Lib.hid (hX.out.kept (Kept.below hq))
  replace hm := Lib.hid ((hm.out.below hq).mono hq.size)
  replace hI := Lib.hid (hI.out.kept (Kept.below hq))
  replace hZ := Lib.hid (hZ.out.kept (Kept.below hq))
  replace hA0 := Lib.hid (hA0.out.kept (Kept.below hq))
  replace ch := Lib.hid (ch.out.trans (hq.mono ch.out.size))
  clear hq
  replace hA1 := Lib.hid hA1
  go_wp2_with fail
  refine (tpair_ok _ _ _ _ _ hA1.out hD.out (by decide) (by have h1 := N1S.out; have h2 := N2S.out; have h3 := N0S.out; (try simp only [Tr.size, h1, h2, h3]); have := ZD.out; have := ZX.out; omega)).mono ?_
  rintro e w9 ⟨qA2, rfl, hA2, hq⟩
  replace hp := Lib.hid ((hp.out.below hq).mono hq.size)
  replace hD := Lib.hid (hD.out.kept (Kept.below hq))
  replace hX := Lib.hid (hX.out.kept (Kept.below hq))
  replace hm := Lib.hid ((hm.out.below hq).mono hq.size)
  replace hI := Lib.hid (hI.out.kept (Kept.below hq))
  replace hZ := Lib.hid (hZ.out.kept (Kept.below hq))
  replace hA0 := Lib.hid (hA0.out.kept (Kept.below hq))
  replace hA1 := Lib.hid (hA1.out.kept (Kept.below hq))
  replace ch := Lib.hid (ch.out.trans (hq.mono ch.out.size))
  clear hq
  replace hA2 := Lib.hid hA2
  go_wp2_with fail
  refine (tpair_ok _ _ _ _ _ hA0.out hA2.out (by decide) (by have h1 := N1S.out; have h2 := N2S.out; have h3 := N0S.out; (try simp only [Tr.size, h1]); have := ZD.out; have := ZX.out; omega)).mono ?_
  rintro e w10 ⟨qA3, rfl, hA3, hq⟩
  replace hp := Lib.hid ((hp.out.below hq).mono hq.size)
  replace hD := Lib.hid (hD.out.kept (Kept.below hq))
  replace hX := Lib.hid (hX.out.kept (Kept.below hq))
  replace hm := Lib.hid ((hm.out.below hq).mono hq.size)
  replace hI := Lib.hid (hI.out.kept (Kept.below hq))
  replace hZ := Lib.hid (hZ.out.kept (Kept.below hq))
  replace hA0 := Lib.hid (hA0.out.kept (Kept.below hq))
  replace hA1 := Lib.hid (hA1.out.kept (Kept.below hq))
  replace hA2 := Lib.hid (hA2.out.kept (Kept.below hq))
  replace ch := Lib.hid (ch.out.trans (hq.mono ch.out.size))
  clear hq
  replace hA3 := Lib.hid hA3
  go_wp2_with fail
  refine (tnum_at 2 2 rfl (by omega) _).mono ?_
  rintro e w11 ⟨qB0, rfl, hB0, hq⟩
  replace hp := Lib.hid ((hp.out.below hq).mono hq.size)
  replace hD := Lib.hid (hD.out.kept (Kept.below hq))
  replace hX := Lib.hid (hX.out.kept (Kept.below hq))
  replace hm := Lib.hid ((hm.out.below hq).mono hq.size)
  replace hI := Lib.hid (hI.out.kept (Kept.below hq))
  replace hZ := Lib.hid (hZ.out.kept (Kept.below hq))
  replace hA0 := Lib.hid (hA0.out.kept (Kept.below hq))
  replace hA1 := Lib.hid (hA1.out.kept (Kept.below hq))
  replace hA2 := Lib.hid (hA2.out.kept (Kept.below hq))
  replace hA3 := Lib.hid (hA3.out.kept (Kept.below hq))
  replace ch := Lib.hid (ch.out.trans (hq.mono ch.out.size))
  clear hq
  replace hB0 := Lib.hid hB0
  go_wp2_with fail
  refine (tnum_at 0 0 rfl (by omega) _).mono ?_
  rintro e w12 ⟨qB1, rfl, hB1, hq⟩
  replace hp := Lib.hid ((hp.out.below hq).mono hq.size)
  replace hD := Lib.hid (hD.out.kept (Kept.below hq))
  replace hX := Lib.hid (hX.out.kept (Kept.below hq))
  replace hm := Lib.hid ((hm.out.below hq).mono hq.size)
  replace hI := Lib.hid (hI.out.kept (Kept.below hq))
  replace hZ := Lib.hid (hZ.out.kept (Kept.below hq))
  replace hA0 := Lib.hid (hA0.out.kept (Kept.below hq))
  replace hA1 := Lib.hid (hA1.out.kept (Kept.below hq))
  replace hA2 := Lib.hid (hA2.out.kept (Kept.below hq))
  replace hA3 := Lib.hid (hA3.out.kept (Kept.below hq))
  replace hB0 := Lib.hid (hB0.out.kept (Kept.below hq))
  replace ch := Lib.hid (ch.out.trans (hq.mono ch.out.size))
  clear hq
  replace hB1 := Lib.hid hB1
  go_wp2_with fail
  refine (tnum_at 1 1 rfl (by omega) _).mono ?_
  rintro e w13 ⟨qB2, rfl, hB2, hq⟩
  replace hp := Lib.hid ((hp.out.below hq).mono hq.size)
  replace hD := Lib.hid (hD.out.kept (Kept.below hq))
  replace hX := Lib.hid (hX.out.kept (Kept.below hq))
  replace hm := Lib.hid ((hm.out.below hq).mono hq.size)
  replace hI := Lib.hid (hI.out.kept (Kept.below hq))
  replace hZ := Lib.hid (hZ.out.kept (Kept.below hq))
  replace hA0 := Lib.hid (hA0.out.kept (Kept.below hq))
  replace hA1 := Lib.hid (hA1.out.kept (Kept.below hq))
  replace hA2 := Lib.hid (hA2.out.kept (Kept.below hq))
  replace hA3 := Lib.hid (hA3.out.kept (Kept.below hq))
  replace hB0 := Lib.hid (hB0.out.kept (Kept.below hq))
  replace hB1 := Lib.hid (hB1.out.kept (Kept.below hq))
  replace ch := Lib.hid (ch.out.trans (hq.mono ch.out.size))
  clear hq
  replace hB2 := Lib.hid hB2
  go_wp2_with fail
  refine (tnum_at 0 0 rfl (by omega) _).mono ?_
  rintro e w14 ⟨qB3, rfl, hB3, hq⟩
  replace hp := Lib.hid ((hp.out.below hq).mono hq.size)
  replace hD := Lib.hid (hD.out.kept (Kept.below hq))
  replace hX := Lib.hid (hX.out.kept (Kept.below hq))
  replace hm := Lib.hid ((hm.out.below hq).mono hq.size)
  replace hI := Lib.hid (hI.out.kept (Kept.below hq))
  replace hZ := Lib.hid (hZ.out.kept (Kept.below hq))
  replace hA0 := Lib.hid (hA0.out.kept (Kept.below hq))
  replace hA1 := Lib.hid (hA1.out.kept (Kept.below hq))
  replace hA2 := Lib.hid (hA2.out.kept (Kept.below hq))
  replace hA3 := Lib.hid (hA3.out.kept (Kept.below hq))
  replace hB0 := Lib.hid (hB0.out.kept (Kept.below hq))
  replace hB1 := Lib.hid (hB1.out.kept (Kept.below hq))
  replace hB2 := Lib.hid (hB2.out.kept (Kept.below hq))
  replace ch := Lib.hid (ch.out.trans (hq.mono ch.out.size))
  clear hq
  replace hB3 := Lib.hid hB3
  go_wp2_with fail
  refine (tpair_ok _ _ _ _ _ hB2.out hB3.out (by decide) (by decide)).mono ?_
  rintro e w15 ⟨qB4, rfl, hB4, hq⟩
  replace hp := Lib.hid ((hp.out.below hq).mono hq.size)
  replace hD := Lib.hid (hD.out.kept (Kept.below hq))
  replace hX := Lib.hid (hX.out.kept (Kept.below hq))
  replace hm := Lib.hid ((hm.out.below hq).mono hq.size)
  replace hI := Lib.hid (hI.out.kept (Kept.below hq))
  replace hZ := Lib.hid (hZ.out.kept (Kept.below hq))
  replace hA0 := Lib.hid (hA0.out.kept (Kept.below hq))
  replace hA1 := Lib.hid (hA1.out.kept (Kept.below hq))
  replace hA2 := Lib.hid (hA2.out.kept (Kept.below hq))
  replace hA3 := Lib.hid (hA3.out.kept (Kept.below hq))
  replace hB0 := Lib.hid (hB0.out.kept (Kept.below hq))
  replace hB1 := Lib.hid (hB1.out.kept (Kept.below hq))
  replace hB2 := Lib.hid (hB2.out.kept (Kept.below hq))
  replace hB3 := Lib.hid (hB3.out.kept (Kept.below hq))
  replace ch := Lib.hid (ch.out.trans (hq.mono ch.out.size))
  clear hq
  replace hB4 := Lib.hid hB4
  go_wp2_with fail
  refine (tpair_ok _ _ _ _ _ hB1.out hB4.out (by decide) (by decide)).mono ?_
  rintro e w16 ⟨qB5, rfl, hB5, hq⟩
  replace hp := Lib.hid ((hp.out.below hq).mono hq.size)
  replace hD := Lib.hid (hD.out.kept (Kept.below hq))
  replace hX := Lib.hid (hX.out.kept (Kept.below hq))
  replace hm := Lib.hid ((hm.out.below hq).mono hq.size)
  replace hI := Lib.hid (hI.out.kept (Kept.below hq))
  replace hZ := Lib.hid (hZ.out.kept (Kept.below hq))
  replace hA0 := Lib.hid (hA0.out.kept (Kept.below hq))
  replace hA1 := Lib.hid (hA1.out.kept (Kept.below hq))
  replace hA2 := Lib.hid (hA2.out.kept (Kept.below hq))
  replace hA3 := Lib.hid (hA3.out.kept (Kept.below hq))
  replace hB0 := Lib.hid (hB0.out.kept (Kept.below hq))
  replace hB1 := Lib.hid (hB1.out.kept (Kept.below hq))
  replace hB2 := Lib.hid (hB2.out.kept (Kept.below hq))
  replace hB3 := Lib.hid (hB3.out.kept (Kept.below hq))
  replace hB4 := Lib.hid (hB4.out.kept (Kept.below hq))
  replace ch := Lib.hid (ch.out.trans (hq.mono ch.out.size))
  clear hq
  replace hB5 := Lib.hid hB5
  go_wp2_with fail
  refine (tpair_ok _ _ _ _ _ hB0.out hB5.out (by decide) (by decide)).mono ?_
  rintro e w17 ⟨qB6, rfl, hB6, hq⟩
  replace hp := Lib.hid ((hp.out.below hq).mono hq.size)
  replace hD := Lib.hid (hD.out.kept (Kept.below hq))
  replace hX := Lib.hid (hX.out.kept (Kept.below hq))
  replace hm := Lib.hid ((hm.out.below hq).mono hq.size)
  replace hI := Lib.hid (hI.out.kept (Kept.below hq))
  replace hZ := Lib.hid (hZ.out.kept (Kept.below hq))
  replace hA0 := Lib.hid (hA0.out.kept (Kept.below hq))
  replace hA1 := Lib.hid (hA1.out.kept (Kept.below hq))
  replace hA2 := Lib.hid (hA2.out.kept (Kept.below hq))
  replace hA3 := Lib.hid (hA3.out.kept (Kept.below hq))
  replace hB0 := Lib.hid (hB0.out.kept (Kept.below hq))
  replace hB1 := Lib.hid (hB1.out.kept (Kept.below hq))
  replace hB2 := Lib.hid (hB2.out.kept (Kept.below hq))
  replace hB3 := Lib.hid (hB3.out.kept (Kept.below hq))
  replace hB4 := Lib.hid (hB4.out.kept (Kept.below hq))
  replace hB5 := Lib.hid (hB5.out.kept (Kept.below hq))
  replace ch := Lib.hid (ch.out.trans (hq.mono ch.out.size))
  clear hq
  replace hB6 := Lib.hid hB6
  go_wp2_with fail
  refine (tnum_at 0 0 rfl (by omega) _).mono ?_
  rintro e w18 ⟨qC0, rfl, hC0, hq⟩
  replace hp := Lib.hid ((hp.out.below hq).mono hq.size)
  replace hD := Lib.hid (hD.out.kept (Kept.below hq))
  replace hX := Lib.hid (hX.out.kept (Kept.below hq))
  replace hm := Lib.hid ((hm.out.below hq).mono hq.size)
  replace hI := Lib.hid (hI.out.kept (Kept.below hq))
  replace hZ := Lib.hid (hZ.out.kept (Kept.below hq))
  replace hA0 := Lib.hid (hA0.out.kept (Kept.below hq))
  replace hA1 := Lib.hid (hA1.out.kept (Kept.below hq))
  replace hA2 := Lib.hid (hA2.out.kept (Kept.below hq))
  replace hA3 := Lib.hid (hA3.out.kept (Kept.below hq))
  replace hB0 := Lib.hid (hB0.out.kept (Kept.below hq))
  replace hB1 := Lib.hid (hB1.out.kept (Kept.below hq))
  replace hB2 := Lib.hid (hB2.out.kept (Kept.below hq))
  replace hB3 := Lib.hid (hB3.out.kept (Kept.below hq))
  replace hB4 := Lib.hid (hB4.out.kept (Kept.below hq))
  replace hB5 := Lib.hid (hB5.out.kept (Kept.below hq))
  replace hB6 := Lib.hid (hB6.out.kept (Kept.below hq))
  replace ch := Lib.hid (ch.out.trans (hq.mono ch.out.size))
  clear hq
  replace hC0 := Lib.hid hC0
  go_wp2_with fail
  refine (tnum_at 1 1 rfl (by omega) _).mono ?_
  rintro e w19 ⟨qC1, rfl, hC1, hq⟩
  replace hp := Lib.hid ((hp.out.below hq).mono hq.size)
  replace hD := Lib.hid (hD.out.kept (Kept.below hq))
  replace hX := Lib.hid (hX.out.kept (Kept.below hq))
  replace hm := Lib.hid ((hm.out.below hq).mono hq.size)
  replace hI := Lib.hid (hI.out.kept (Kept.below hq))
  replace hZ := Lib.hid (hZ.out.kept (Kept.below hq))
  replace hA0 := Lib.hid (hA0.out.kept (Kept.below hq))
  replace hA1 := Lib.hid (hA1.out.kept (Kept.below hq))
  replace hA2 := Lib.hid (hA2.out.kept (Kept.below hq))
  replace hA3 := Lib.hid (hA3.out.kept (Kept.below hq))
  replace hB0 := Lib.hid (hB0.out.kept (Kept.below hq))
  replace hB1 := Lib.hid (hB1.out.kept (Kept.below hq))
  replace hB2 := Lib.hid (hB2.out.kept (Kept.below hq))
  replace hB3 := Lib.hid (hB3.out.kept (Kept.below hq))
  replace hB4 := Lib.hid (hB4.out.kept (Kept.below hq))
  replace hB5 := Lib.hid (hB5.out.kept (Kept.below hq))
  replace hB6 := Lib.hid (hB6.out.kept (Kept.below hq))
  replace hC0 := Lib.hid (hC0.out.kept (Kept.below hq))
  replace ch := Lib.hid (ch.out.trans (hq.mono ch.out.size))
  clear hq
  replace hC1 := Lib.hid hC1
  go_wp2_with fail
  refine (tpair_ok _ .nil _ (.pointer none) _ hC1.out rfl (by decide) (by decide)).mono ?_
  rintro e w20 ⟨qC2, rfl, hC2, hq⟩
  replace hp := Lib.hid ((hp.out.below hq).mono hq.size)
  replace hD := Lib.hid (hD.out.kept (Kept.below hq))
  replace hX := Lib.hid (hX.out.kept (Kept.below hq))
  replace hm := Lib.hid ((hm.out.below hq).mono hq.size)
  replace hI := Lib.hid (hI.out.kept (Kept.below hq))
  replace hZ := Lib.hid (hZ.out.kept (Kept.below hq))
  replace hA0 := Lib.hid (hA0.out.kept (Kept.below hq))
  replace hA1 := Lib.hid (hA1.out.kept (Kept.below hq))
  replace hA2 := Lib.hid (hA2.out.kept (Kept.below hq))
  replace hA3 := Lib.hid (hA3.out.kept (Kept.below hq))
  replace hB0 := Lib.hid (hB0.out.kept (Kept.below hq))
  replace hB1 := Lib.hid (hB1.out.kept (Kept.below hq))
  replace hB2 := Lib.hid (hB2.out.kept (Kept.below hq))
  replace hB3 := Lib.hid (hB3.out.kept (Kept.below hq))
  replace hB4 := Lib.hid (hB4.out.kept (Kept.below hq))
  replace hB5 := Lib.hid (hB5.out.kept (Kept.below hq))
  replace hB6 := Lib.hid (hB6.out.kept (Kept.below hq))
  replace hC0 := Lib.hid (hC0.out.kept (Kept.below hq))
  replace hC1 := Lib.hid (hC1.out.kept (Kept.below hq))
  replace ch := Lib.hid (ch.out.trans (hq.mono ch.out.size))
  clear hq
  replace hC2 := Lib.hid hC2
  go_wp2_with fail
  refine (tpair_ok _ _ _ _ _ hC0.out hC2.out (by decide) (by decide)).mono ?_
  rintro e w21 ⟨qC3, rfl, hC3, hq⟩
  replace hp := Lib.hid ((hp.out.below hq).mono hq.size)
  replace hD := Lib.hid (hD.out.kept (Kept.below hq))
  replace hX := Lib.hid (hX.out.kept (Kept.below hq))
  replace hm := Lib.hid ((hm.out.below hq).mono hq.size)
  replace hI := Lib.hid (hI.out.kept (Kept.below hq))
  replace hZ := Lib.hid (hZ.out.kept (Kept.below hq))
  replace hA0 := Lib.hid (hA0.out.kept (Kept.below hq))
  replace hA1 := Lib.hid (hA1.out.kept (Kept.below hq))
  replace hA2 := Lib.hid (hA2.out.kept (Kept.below hq))
  replace hA3 := Lib.hid (hA3.out.kept (Kept.below hq))
  replace hB0 := Lib.hid (hB0.out.kept (Kept.below hq))
  replace hB1 := Lib.hid (hB1.out.kept (Kept.below hq))
  replace hB2 := Lib.hid (hB2.out.kept (Kept.below hq))
  replace hB3 := Lib.hid (hB3.out.kept (Kept.below hq))
  replace hB4 := Lib.hid (hB4.out.kept (Kept.below hq))
  replace hB5 := Lib.hid (hB5.out.kept (Kept.below hq))
  replace hB6 := Lib.hid (hB6.out.kept (Kept.below hq))
  replace hC0 := Lib.hid (hC0.out.kept (Kept.below hq))
  replace hC1 := Lib.hid (hC1.out.kept (Kept.below hq))
  replace hC2 := Lib.hid (hC2.out.kept (Kept.below hq))
  replace ch := Lib.hid (ch.out.trans (hq.mono ch.out.size))
  clear hq
  replace hC3 := Lib.hid hC3
  go_wp2_with fail
  refine (tpair_ok _ _ _ _ _ hC3.out hX.out (by have h1 := N1S.out; have h2 := N2S.out; have h3 := N0S.out; (try simp only [Tr.size, h1, h3]); have := ZD.out; have := ZX.out; omega) (by have h1 := N1S.out; have h2 := N2S.out; have h3 := N0S.out; (try simp only [Tr.size, h1, h2, h3]); have := ZD.out; have := ZX.out; omega)).mono ?_
  rintro e w22 ⟨qE1, rfl, hE1, hq⟩
  replace hp := Lib.hid ((hp.out.below hq).mono hq.size)
  replace hD := Lib.hid (hD.out.kept (Kept.below hq))
  replace hX := Lib.hid (hX.out.kept (Kept.below hq))
  replace hm := Lib.hid ((hm.out.below hq).mono hq.size)
  replace hI := Lib.hid (hI.out.kept (Kept.below hq))
  replace hZ := Lib.hid (hZ.out.kept (Kept.below hq))
  replace hA0 := Lib.hid (hA0.out.kept (Kept.below hq))
  replace hA1 := Lib.hid (hA1.out.kept (Kept.below hq))
  replace hA2 := Lib.hid (hA2.out.kept (Kept.below hq))
  replace hA3 := Lib.hid (hA3.out.kept (Kept.below hq))
  replace hB0 := Lib.hid (hB0.out.kept (Kept.below hq))
  replace hB1 := Lib.hid (hB1.out.kept (Kept.below hq))
  replace hB2 := Lib.hid (hB2.out.kept (Kept.below hq))
  replace hB3 := Lib.hid (hB3.out.kept (Kept.below hq))
  replace hB4 := Lib.hid (hB4.out.kept (Kept.below hq))
  replace hB5 := Lib.hid (hB5.out.kept (Kept.below hq))
  replace hB6 := Lib.hid (hB6.out.kept (Kept.below hq))
  replace hC0 := Lib.hid (hC0.out.kept (Kept.below hq))
  replace hC1 := Lib.hid (hC1.out.kept (Kept.below hq))
  replace hC2 := Lib.hid (hC2.out.kept (Kept.below hq))
  replace hC3 := Lib.hid (hC3.out.kept (Kept.below hq))
  replace ch := Lib.hid (ch.out.trans (hq.mono ch.out.size))
  clear hq
  replace hE1 := Lib.hid hE1
  go_wp2_with fail
  refine (tpair_ok _ _ _ _ _ hB6.out hE1.out (by have h1 := N1S.out; have h2 := N2S.out; have h3 := N0S.out; (try simp only [Tr.size, h1, h2, h3]); have := ZD.out; have := ZX.out; omega) (by have h1 := N1S.out; have h2 := N2S.out; have h3 := N0S.out; (try simp only [Tr.size, h1, h3]); have := ZD.out; have := ZX.out; omega)).mono ?_
  rintro e w23 ⟨qE2, rfl, hE2, hq⟩
  replace hp := Lib.hid ((hp.out.below hq).mono hq.size)
  replace hD := Lib.hid (hD.out.kept (Kept.below hq))
  replace hX := Lib.hid (hX.out.kept (Kept.below hq))
  replace hm := Lib.hid ((hm.out.below hq).mono hq.size)
  replace hI := Lib.hid (hI.out.kept (Kept.below hq))
  replace hZ := Lib.hid (hZ.out.kept (Kept.below hq))
  replace hA0 := Lib.hid (hA0.out.kept (Kept.below hq))
  replace hA1 := Lib.hid (hA1.out.kept (Kept.below hq))
  replace hA2 := Lib.hid (hA2.out.kept (Kept.below hq))
  replace hA3 := Lib.hid (hA3.out.kept (Kept.below hq))
  replace hB0 := Lib.hid (hB0.out.kept (Kept.below hq))
  replace hB1 := Lib.hid (hB1.out.kept (Kept.below hq))
  replace hB2 := Lib.hid (hB2.out.kept (Kept.below hq))
  replace hB3 := Lib.hid (hB3.out.kept (Kept.below hq))
  replace hB4 := Lib.hid (hB4.out.kept (Kept.below hq))
  replace hB5 := Lib.hid (hB5.out.kept (Kept.below hq))
  replace hB6 := Lib.hid (hB6.out.kept (Kept.below hq))
  replace hC0 := Lib.hid (hC0.out.kept (Kept.below hq))
  replace hC1 := Lib.hid (hC1.out.kept (Kept.below hq))
  replace hC2 := Lib.hid (hC2.out.kept (Kept.below hq))
  replace hC3 := Lib.hid (hC3.out.kept (Kept.below hq))
  replace hE1 := Lib.hid (hE1.out.kept (Kept.below hq))
  replace ch := Lib.hid (ch.out.trans (hq.mono ch.out.size))
  clear hq
  replace hE2 := Lib.hid hE2
  go_wp2_with fail
  refine (tpair_ok _ _ _ _ _ hA3.out hE2.out (by have h1 := N1S.out; have h2 := N2S.out; have h3 := N0S.out; (try simp only [Tr.size, h1, h3]); have := ZD.out; have := ZX.out; omega) (by have h1 := N1S.out; have h2 := N2S.out; have h3 := N0S.out; (try simp only [Tr.size, h1, h2, h3]); have := ZD.out; have := ZX.out; omega)).mono ?_
  rintro e w24 ⟨qE3, rfl, hE3, hq⟩
  replace hp := Lib.hid ((hp.out.below hq).mono hq.size)
  replace hD := Lib.hid (hD.out.kept (Kept.below hq))
  replace hX := Lib.hid (hX.out.kept (Kept.below hq))
  replace hm := Lib.hid ((hm.out.below hq).mono hq.size)
  replace hI := Lib.hid (hI.out.kept (Kept.below hq))
  replace hZ := Lib.hid (hZ.out.kept (Kept.below hq))
  replace hA0 := Lib.hid (hA0.out.kept (Kept.below hq))
  replace hA1 := Lib.hid (hA1.out.kept (Kept.below hq))
  replace hA2 := Lib.hid (hA2.out.kept (Kept.below hq))
  replace hA3 := Lib.hid (hA3.out.kept (Kept.below hq))
  replace hB0 := Lib.hid (hB0.out.kept (Kept.below hq))
  replace hB1 := Lib.hid (hB1.out.kept (Kept.below hq))
  replace hB2 := Lib.hid (hB2.out.kept (Kept.below hq))
  replace hB3 := Lib.hid (hB3.out.kept (Kept.below hq))
  replace hB4 := Lib.hid (hB4.out.kept (Kept.below hq))
  replace hB5 := Lib.hid (hB5.out.kept (Kept.below hq))
  replace hB6 := Lib.hid (hB6.out.kept (Kept.below hq))
  replace hC0 := Lib.hid (hC0.out.kept (Kept.below hq))
  replace hC1 := Lib.hid (hC1.out.kept (Kept.below hq))
  replace hC2 := Lib.hid (hC2.out.kept (Kept.below hq))
  replace hC3 := Lib.hid (hC3.out.kept (Kept.below hq))
  replace hE1 := Lib.hid (hE1.out.kept (Kept.below hq))
  replace hE2 := Lib.hid (hE2.out.kept (Kept.below hq))
  replace ch := Lib.hid (ch.out.trans (hq.mono ch.out.size))
  clear hq
  replace hE3 := Lib.hid hE3
  have hE4 : NodeP 102 w24 (metaT (toTr x) (toTr d)) (.pointer (some qE3)) := hE3.out
  go_wp2_with fail
  refine (tequal_same hZ.out hE4 (by rw [metaT_size]; have := ZX.out; have := ZD.out; omega)).mono ?_
  rintro e w25 ⟨rfl, hq⟩
  replace hp := Lib.hid ((hp.out.below hq).mono hq.size)
  replace hD := Lib.hid (hD.out.kept (Kept.below hq))
  replace hX := Lib.hid (hX.out.kept (Kept.below hq))
  replace hm := Lib.hid ((hm.out.below hq).mono hq.size)
  replace hI := Lib.hid (hI.out.kept (Kept.below hq))
  replace hZ := Lib.hid (hZ.out.kept (Kept.below hq))
  replace hA0 := Lib.hid (hA0.out.kept (Kept.below hq))
  replace hA1 := Lib.hid (hA1.out.kept (Kept.below hq))
  replace hA2 := Lib.hid (hA2.out.kept (Kept.below hq))
  replace hA3 := Lib.hid (hA3.out.kept (Kept.below hq))
  replace hB0 := Lib.hid (hB0.out.kept (Kept.below hq))
  replace hB1 := Lib.hid (hB1.out.kept (Kept.below hq))
  replace hB2 := Lib.hid (hB2.out.kept (Kept.below hq))
  replace hB3 := Lib.hid (hB3.out.kept (Kept.below hq))
  replace hB4 := Lib.hid (hB4.out.kept (Kept.below hq))
  replace hB5 := Lib.hid (hB5.out.kept (Kept.below hq))
  replace hB6 := Lib.hid (hB6.out.kept (Kept.below hq))
  replace hC0 := Lib.hid (hC0.out.kept (Kept.below hq))
  replace hC1 := Lib.hid (hC1.out.kept (Kept.below hq))
  replace hC2 := Lib.hid (hC2.out.kept (Kept.below hq))
  replace hC3 := Lib.hid (hC3.out.kept (Kept.below hq))
  replace hE1 := Lib.hid (hE1.out.kept (Kept.below hq))
  replace hE2 := Lib.hid (hE2.out.kept (Kept.below hq))
  replace hE3 := Lib.hid (hE3.out.kept (Kept.below hq))
  replace ch := Lib.hid (ch.out.trans (hq.mono ch.out.size))
  clear hq
  clear hE4
  clear hI
  clear hZ
  clear hA0
  clear hA1
  clear hA2
  clear hA3
  clear hB0
  clear hB1
  clear hB2
  clear hB3
  clear hB4
  clear hB5
  clear hB6
  clear hC0
  clear hC1
  clear hC2
  clear hC3
  clear hE1
  clear hE2
  clear hE3
  go_wp2_with fail
  refine (tgood_any _ p 200 5000 (by omega) (by omega) _ hp.out).mono ?_
  rintro e w26 ⟨rfl, hq⟩
  replace hp := Lib.hid ((hp.out.below hq).mono hq.size)
  replace hD := Lib.hid (hD.out.kept (Kept.below hq))
  replace hX := Lib.hid (hX.out.kept (Kept.below hq))
  replace hm := Lib.hid ((hm.out.below hq).mono hq.size)
  replace ch := Lib.hid (ch.out.trans (hq.mono ch.out.size))
  clear hq
  rw [HG.out]
  go_wp2_with fail
  refine (supplies_any _).mono ?_
  rintro e w27 ⟨rfl, hq⟩
  replace hp := Lib.hid ((hp.out.below hq).mono hq.size)
  replace hD := Lib.hid (hD.out.kept (Kept.below hq))
  replace hX := Lib.hid (hX.out.kept (Kept.below hq))
  replace hm := Lib.hid ((hm.out.below hq).mono hq.size)
  replace ch := Lib.hid (ch.out.trans (hq.mono ch.out.size))
  clear hq
  go_wp2
  go_ret
  exact ⟨rfl, ch.out⟩

set_option maxRecDepth 20000 in
set_option maxHeartbeats 8000000 in
theorem ts_e {w : World} (vp : Value) (p : List Ins) (hhp : InsRow w w.heap.size vp p) (d : ByteArray) (hds : d.size ≤ 140737488355328) (x : ByteArray) (hxs : x.size ≤ 140737488355328) (HD : Hid (growB d 2000 = true)) (HX : Hid (growB x 2000 = true)) (HG : Hid (goodB p 200 5000 = true)) : Calls Try.prog 12 #[vp, .string d, .string x] w fun e w' => e = .returned (.bool true) ∧ Below w.heap.size w w' := by
  obtain ⟨pa, pc, rfl⟩ := hhp.len
  obtain ⟨pn, hpn⟩ : ∃ z, p.length = z := ⟨_, rfl⟩
  rw [hpn] at hhp ⊢
  have hp := Lib.hid hhp
  have HPN := Lib.hid hpn
  clear hhp hpn
  have ch := Lib.hid (Below.refl w.heap.size w)
  go_enter Try.func12, Try.ntmps12
  have ZD := Lib.hid (show (toTr d).size ≤ 2000 by rw [growB_size HD.out]; exact (growB_tree HD.out).2)
  have ZX := Lib.hid (show (toTr x).size ≤ 2000 by rw [growB_size HX.out]; exact (growB_tree HX.out).2)
  go_wp2_with fail
  refine (tgrow_yes hds (by omega) HD.out _).mono ?_
  rintro e w1 ⟨pd, rfl, hD, hq⟩
  replace hp := Lib.hid ((hp.out.below hq).mono hq.size)
  replace ch := Lib.hid (ch.out.trans (hq.mono ch.out.size))
  clear hq
  replace hD := Lib.hid hD
  go_wp2_with fail
  refine (tgrow_yes hxs (by omega) HX.out _).mono ?_
  rintro e w2 ⟨px, rfl, hX, hq⟩
  replace hp := Lib.hid ((hp.out.below hq).mono hq.size)
  replace hD := Lib.hid (hD.out.kept (Kept.below hq))
  replace ch := Lib.hid (ch.out.trans (hq.mono ch.out.size))
  clear hq
  replace hX := Lib.hid hX
  go_wp2_with fail
  refine (meta_any _).mono ?_
  rintro e w3 ⟨vm, rfl, hm, hq⟩
  replace hp := Lib.hid ((hp.out.below hq).mono hq.size)
  replace hD := Lib.hid (hD.out.kept (Kept.below hq))
  replace hX := Lib.hid (hX.out.kept (Kept.below hq))
  replace ch := Lib.hid (ch.out.trans (hq.mono ch.out.size))
  clear hq
  obtain ⟨ma, mc, rfl⟩ := hm.slice
  replace hm := Lib.hid (hm.row (by decide))
  go_wp2_with fail
  refine (twhole_any _ metaL true meta_valid _ hm.out).mono ?_
  rintro e w4 ⟨rfl, hq⟩
  replace hp := Lib.hid ((hp.out.below hq).mono hq.size)
  replace hD := Lib.hid (hD.out.kept (Kept.below hq))
  replace hX := Lib.hid (hX.out.kept (Kept.below hq))
  replace hm := Lib.hid ((hm.out.below hq).mono hq.size)
  replace ch := Lib.hid (ch.out.trans (hq.mono ch.out.size))
  clear hq
  go_wp2_with fail
  refine (tpair_ok _ _ _ _ _ hX.out hD.out (by have := ZX.out; omega) (by have := ZD.out; omega)).mono ?_
  rintro e w5 ⟨gi, rfl, hI, hq⟩
  replace hp := Lib.hid ((hp.out.below hq).mono hq.size)
  replace hD := Lib.hid (hD.out.kept (Kept.below hq))
  replace hX := Lib.hid (hX.out.kept (Kept.below hq))
  replace hm := Lib.hid ((hm.out.below hq).mono hq.size)
  replace ch := Lib.hid (ch.out.trans (hq.mono ch.out.size))
  clear hq
  replace hI := Lib.hid hI
  go_wp2_with fail
  refine (tplay_doneM 100 _ rfl (by omega) (meta_small (toTr x) (toTr d) (by have := ZX.out; have := ZD.out; omega) 100 (by omega)) hm.out meta_valid hI.out (by simp only [Tr.size]; have := ZX.out; have := ZD.out; omega)).mono ?_
  rintro e w6 ⟨qz, rfl, hZ, hq⟩
  replace hp := Lib.hid ((hp.out.below hq).mono hq.size)
  replace hD := Lib.hid (hD.out.kept (Kept.below hq))
  replace hX := Lib.hid (hX.out.kept (Kept.below hq))
  replace hm := Lib.hid ((hm.out.below hq).mono hq.size)
  replace hI := Lib.hid (hI.out.kept (Kept.below hq))
  replace ch := Lib.hid (ch.out.trans (hq.mono ch.out.size))
  clear hq
  replace hZ := Lib.hid hZ
  have n1s : (Tr.num 1).size = 3 := rfl
  have n2s : (Tr.num 2).size = 5 := rfl
  have n0s : (Tr.num 0).size = 1 := rfl
  have N1S := Lib.hid n1s
  have N2S := Lib.hid n2s
  have N0S := Lib.hid n0s
  clear n1s n2s n0s
  go_wp2_with fail
  refine (tnum_at 0 0 rfl (by omega) _).mono ?_
  rintro e w7 ⟨qA0, rfl, hA0, hq⟩
  replace hp := Lib.hid ((hp.out.below hq).mono hq.size)
  replace hD := Lib.hid (hD.out.kept (Kept.below hq))
  replace hX := Lib.hid (hX.out.kept (Kept.below hq))
  replace hm := Lib.hid ((hm.out.below hq).mono hq.size)
  replace hI := Lib.hid (hI.out.kept (Kept.below hq))
  replace hZ := Lib.hid (hZ.out.kept (Kept.below hq))
  replace ch := Lib.hid (ch.out.trans (hq.mono ch.out.size))
  clear hq
  replace hA0 := Lib.hid hA0
  go_wp2_with fail
  refine (tnum_at 1 1 rfl (by omega) _).mono ?_
  rintro e w8 ⟨qA1, rfl, hA1, hq⟩
  replace hp := Lib.hid ((hp.out.below hq).mono hq.size)
  replace hD := Lib.hid (hD.out.kept (Kept.below hq))
  replace hX := Lib.hid (hX.out.kept (Kept.below hq))
  replace hm := Lib.hid ((hm.out.below hq).mono hq.size)
  replace hI := Lib.hid (hI.out.kept (Kept.below hq))
  replace hZ := Lib.hid (hZ.out.kept (Kept.below hq))
  replace hA0 := Lib.hid (hA0.out.kept (Kept.below hq))
  replace ch := Lib.hid (ch.out.trans (hq.mono ch.out.size))
  clear hq
  replace hA1 := Lib.hid hA1
  go_wp2_with fail
  refine (tpair_ok _ _ _ _ _ hA1.out hD.out (by decide) (by have h1 := N1S.out; have h2 := N2S.out; have h3 := N0S.out; (try simp only [Tr.size, h1, h2, h3]); have := ZD.out; have := ZX.out; omega)).mono ?_
  rintro e w9 ⟨qA2, rfl, hA2, hq⟩
  replace hp := Lib.hid ((hp.out.below hq).mono hq.size)
  replace hD := Lib.hid (hD.out.kept (Kept.below hq))
  replace hX := Lib.hid (hX.out.kept (Kept.below hq))
  replace hm := Lib.hid ((hm.out.below hq).mono hq.size)
  replace hI := Lib.hid (hI.out.kept (Kept.below hq))
  replace hZ := Lib.hid (hZ.out.kept (Kept.below hq))
  replace hA0 := Lib.hid (hA0.out.kept (Kept.below hq))
  replace hA1 := Lib.hid (hA1.out.kept (Kept.below hq))
  replace ch := Lib.hid (ch.out.trans (hq.mono ch.out.size))
  clear hq
  replace hA2 := Lib.hid hA2
  go_wp2_with fail
  refine (tpair_ok _ _ _ _ _ hA0.out hA2.out (by decide) (by have h1 := N1S.out; have h2 := N2S.out; have h3 := N0S.out; (try simp only [Tr.size, h1]); have := ZD.out; have := ZX.out; omega)).mono ?_
  rintro e w10 ⟨qA3, rfl, hA3, hq⟩
  replace hp := Lib.hid ((hp.out.below hq).mono hq.size)
  replace hD := Lib.hid (hD.out.kept (Kept.below hq))
  replace hX := Lib.hid (hX.out.kept (Kept.below hq))
  replace hm := Lib.hid ((hm.out.below hq).mono hq.size)
  replace hI := Lib.hid (hI.out.kept (Kept.below hq))
  replace hZ := Lib.hid (hZ.out.kept (Kept.below hq))
  replace hA0 := Lib.hid (hA0.out.kept (Kept.below hq))
  replace hA1 := Lib.hid (hA1.out.kept (Kept.below hq))
  replace hA2 := Lib.hid (hA2.out.kept (Kept.below hq))
  replace ch := Lib.hid (ch.out.trans (hq.mono ch.out.size))
  clear hq
  replace hA3 := Lib.hid hA3
  go_wp2_with fail
  refine (tnum_at 2 2 rfl (by omega) _).mono ?_
  rintro e w11 ⟨qB0, rfl, hB0, hq⟩
  replace hp := Lib.hid ((hp.out.below hq).mono hq.size)
  replace hD := Lib.hid (hD.out.kept (Kept.below hq))
  replace hX := Lib.hid (hX.out.kept (Kept.below hq))
  replace hm := Lib.hid ((hm.out.below hq).mono hq.size)
  replace hI := Lib.hid (hI.out.kept (Kept.below hq))
  replace hZ := Lib.hid (hZ.out.kept (Kept.below hq))
  replace hA0 := Lib.hid (hA0.out.kept (Kept.below hq))
  replace hA1 := Lib.hid (hA1.out.kept (Kept.below hq))
  replace hA2 := Lib.hid (hA2.out.kept (Kept.below hq))
  replace hA3 := Lib.hid (hA3.out.kept (Kept.below hq))
  replace ch := Lib.hid (ch.out.trans (hq.mono ch.out.size))
  clear hq
  replace hB0 := Lib.hid hB0
  go_wp2_with fail
  refine (tnum_at 0 0 rfl (by omega) _).mono ?_
  rintro e w12 ⟨qB1, rfl, hB1, hq⟩
  replace hp := Lib.hid ((hp.out.below hq).mono hq.size)
  replace hD := Lib.hid (hD.out.kept (Kept.below hq))
  replace hX := Lib.hid (hX.out.kept (Kept.below hq))
  replace hm := Lib.hid ((hm.out.below hq).mono hq.size)
  replace hI := Lib.hid (hI.out.kept (Kept.below hq))
  replace hZ := Lib.hid (hZ.out.kept (Kept.below hq))
  replace hA0 := Lib.hid (hA0.out.kept (Kept.below hq))
  replace hA1 := Lib.hid (hA1.out.kept (Kept.below hq))
  replace hA2 := Lib.hid (hA2.out.kept (Kept.below hq))
  replace hA3 := Lib.hid (hA3.out.kept (Kept.below hq))
  replace hB0 := Lib.hid (hB0.out.kept (Kept.below hq))
  replace ch := Lib.hid (ch.out.trans (hq.mono ch.out.size))
  clear hq
  replace hB1 := Lib.hid hB1
  go_wp2_with fail
  refine (tnum_at 1 1 rfl (by omega) _).mono ?_
  rintro e w13 ⟨qB2, rfl, hB2, hq⟩
  replace hp := Lib.hid ((hp.out.below hq).mono hq.size)
  replace hD := Lib.hid (hD.out.kept (Kept.below hq))
  replace hX := Lib.hid (hX.out.kept (Kept.below hq))
  replace hm := Lib.hid ((hm.out.below hq).mono hq.size)
  replace hI := Lib.hid (hI.out.kept (Kept.below hq))
  replace hZ := Lib.hid (hZ.out.kept (Kept.below hq))
  replace hA0 := Lib.hid (hA0.out.kept (Kept.below hq))
  replace hA1 := Lib.hid (hA1.out.kept (Kept.below hq))
  replace hA2 := Lib.hid (hA2.out.kept (Kept.below hq))
  replace hA3 := Lib.hid (hA3.out.kept (Kept.below hq))
  replace hB0 := Lib.hid (hB0.out.kept (Kept.below hq))
  replace hB1 := Lib.hid (hB1.out.kept (Kept.below hq))
  replace ch := Lib.hid (ch.out.trans (hq.mono ch.out.size))
  clear hq
  replace hB2 := Lib.hid hB2
  go_wp2_with fail
  refine (tnum_at 0 0 rfl (by omega) _).mono ?_
  rintro e w14 ⟨qB3, rfl, hB3, hq⟩
  replace hp := Lib.hid ((hp.out.below hq).mono hq.size)
  replace hD := Lib.hid (hD.out.kept (Kept.below hq))
  replace hX := Lib.hid (hX.out.kept (Kept.below hq))
  replace hm := Lib.hid ((hm.out.below hq).mono hq.size)
  replace hI := Lib.hid (hI.out.kept (Kept.below hq))
  replace hZ := Lib.hid (hZ.out.kept (Kept.below hq))
  replace hA0 := Lib.hid (hA0.out.kept (Kept.below hq))
  replace hA1 := Lib.hid (hA1.out.kept (Kept.below hq))
  replace hA2 := Lib.hid (hA2.out.kept (Kept.below hq))
  replace hA3 := Lib.hid (hA3.out.kept (Kept.below hq))
  replace hB0 := Lib.hid (hB0.out.kept (Kept.below hq))
  replace hB1 := Lib.hid (hB1.out.kept (Kept.below hq))
  replace hB2 := Lib.hid (hB2.out.kept (Kept.below hq))
  replace ch := Lib.hid (ch.out.trans (hq.mono ch.out.size))
  clear hq
  replace hB3 := Lib.hid hB3
  go_wp2_with fail
  refine (tpair_ok _ _ _ _ _ hB2.out hB3.out (by decide) (by decide)).mono ?_
  rintro e w15 ⟨qB4, rfl, hB4, hq⟩
  replace hp := Lib.hid ((hp.out.below hq).mono hq.size)
  replace hD := Lib.hid (hD.out.kept (Kept.below hq))
  replace hX := Lib.hid (hX.out.kept (Kept.below hq))
  replace hm := Lib.hid ((hm.out.below hq).mono hq.size)
  replace hI := Lib.hid (hI.out.kept (Kept.below hq))
  replace hZ := Lib.hid (hZ.out.kept (Kept.below hq))
  replace hA0 := Lib.hid (hA0.out.kept (Kept.below hq))
  replace hA1 := Lib.hid (hA1.out.kept (Kept.below hq))
  replace hA2 := Lib.hid (hA2.out.kept (Kept.below hq))
  replace hA3 := Lib.hid (hA3.out.kept (Kept.below hq))
  replace hB0 := Lib.hid (hB0.out.kept (Kept.below hq))
  replace hB1 := Lib.hid (hB1.out.kept (Kept.below hq))
  replace hB2 := Lib.hid (hB2.out.kept (Kept.below hq))
  replace hB3 := Lib.hid (hB3.out.kept (Kept.below hq))
  replace ch := Lib.hid (ch.out.trans (hq.mono ch.out.size))
  clear hq
  replace hB4 := Lib.hid hB4
  go_wp2_with fail
  refine (tpair_ok _ _ _ _ _ hB1.out hB4.out (by decide) (by decide)).mono ?_
  rintro e w16 ⟨qB5, rfl, hB5, hq⟩
  replace hp := Lib.hid ((hp.out.below hq).mono hq.size)
  replace hD := Lib.hid (hD.out.kept (Kept.below hq))
  replace hX := Lib.hid (hX.out.kept (Kept.below hq))
  replace hm := Lib.hid ((hm.out.below hq).mono hq.size)
  replace hI := Lib.hid (hI.out.kept (Kept.below hq))
  replace hZ := Lib.hid (hZ.out.kept (Kept.below hq))
  replace hA0 := Lib.hid (hA0.out.kept (Kept.below hq))
  replace hA1 := Lib.hid (hA1.out.kept (Kept.below hq))
  replace hA2 := Lib.hid (hA2.out.kept (Kept.below hq))
  replace hA3 := Lib.hid (hA3.out.kept (Kept.below hq))
  replace hB0 := Lib.hid (hB0.out.kept (Kept.below hq))
  replace hB1 := Lib.hid (hB1.out.kept (Kept.below hq))
  replace hB2 := Lib.hid (hB2.out.kept (Kept.below hq))
  replace hB3 := Lib.hid (hB3.out.kept (Kept.below hq))
  replace hB4 := Lib.hid (hB4.out.kept (Kept.below hq))
  replace ch := Lib.hid (ch.out.trans (hq.mono ch.out.size))
  clear hq
  replace hB5 := Lib.hid hB5
  go_wp2_with fail
  refine (tpair_ok _ _ _ _ _ hB0.out hB5.out (by decide) (by decide)).mono ?_
  rintro e w17 ⟨qB6, rfl, hB6, hq⟩
  replace hp := Lib.hid ((hp.out.below hq).mono hq.size)
  replace hD := Lib.hid (hD.out.kept (Kept.below hq))
  replace hX := Lib.hid (hX.out.kept (Kept.below hq))
  replace hm := Lib.hid ((hm.out.below hq).mono hq.size)
  replace hI := Lib.hid (hI.out.kept (Kept.below hq))
  replace hZ := Lib.hid (hZ.out.kept (Kept.below hq))
  replace hA0 := Lib.hid (hA0.out.kept (Kept.below hq))
  replace hA1 := Lib.hid (hA1.out.kept (Kept.below hq))
  replace hA2 := Lib.hid (hA2.out.kept (Kept.below hq))
  replace hA3 := Lib.hid (hA3.out.kept (Kept.below hq))
  replace hB0 := Lib.hid (hB0.out.kept (Kept.below hq))
  replace hB1 := Lib.hid (hB1.out.kept (Kept.below hq))
  replace hB2 := Lib.hid (hB2.out.kept (Kept.below hq))
  replace hB3 := Lib.hid (hB3.out.kept (Kept.below hq))
  replace hB4 := Lib.hid (hB4.out.kept (Kept.below hq))
  replace hB5 := Lib.hid (hB5.out.kept (Kept.below hq))
  replace ch := Lib.hid (ch.out.trans (hq.mono ch.out.size))
  clear hq
  replace hB6 := Lib.hid hB6
  go_wp2_with fail
  refine (tnum_at 0 0 rfl (by omega) _).mono ?_
  rintro e w18 ⟨qC0, rfl, hC0, hq⟩
  replace hp := Lib.hid ((hp.out.below hq).mono hq.size)
  replace hD := Lib.hid (hD.out.kept (Kept.below hq))
  replace hX := Lib.hid (hX.out.kept (Kept.below hq))
  replace hm := Lib.hid ((hm.out.below hq).mono hq.size)
  replace hI := Lib.hid (hI.out.kept (Kept.below hq))
  replace hZ := Lib.hid (hZ.out.kept (Kept.below hq))
  replace hA0 := Lib.hid (hA0.out.kept (Kept.below hq))
  replace hA1 := Lib.hid (hA1.out.kept (Kept.below hq))
  replace hA2 := Lib.hid (hA2.out.kept (Kept.below hq))
  replace hA3 := Lib.hid (hA3.out.kept (Kept.below hq))
  replace hB0 := Lib.hid (hB0.out.kept (Kept.below hq))
  replace hB1 := Lib.hid (hB1.out.kept (Kept.below hq))
  replace hB2 := Lib.hid (hB2.out.kept (Kept.below hq))
  replace hB3 := Lib.hid (hB3.out.kept (Kept.below hq))
  replace hB4 := Lib.hid (hB4.out.kept (Kept.below hq))
  replace hB5 := Lib.hid (hB5.out.kept (Kept.below hq))
  replace hB6 := Lib.hid (hB6.out.kept (Kept.below hq))
  replace ch := Lib.hid (ch.out.trans (hq.mono ch.out.size))
  clear hq
  replace hC0 := Lib.hid hC0
  go_wp2_with fail
  refine (tnum_at 1 1 rfl (by omega) _).mono ?_
  rintro e w19 ⟨qC1, rfl, hC1, hq⟩
  replace hp := Lib.hid ((hp.out.below hq).mono hq.size)
  replace hD := Lib.hid (hD.out.kept (Kept.below hq))
  replace hX := Lib.hid (hX.out.kept (Kept.below hq))
  replace hm := Lib.hid ((hm.out.below hq).mono hq.size)
  replace hI := Lib.hid (hI.out.kept (Kept.below hq))
  replace hZ := Lib.hid (hZ.out.kept (Kept.below hq))
  replace hA0 := Lib.hid (hA0.out.kept (Kept.below hq))
  replace hA1 := Lib.hid (hA1.out.kept (Kept.below hq))
  replace hA2 := Lib.hid (hA2.out.kept (Kept.below hq))
  replace hA3 := Lib.hid (hA3.out.kept (Kept.below hq))
  replace hB0 := Lib.hid (hB0.out.kept (Kept.below hq))
  replace hB1 := Lib.hid (hB1.out.kept (Kept.below hq))
  replace hB2 := Lib.hid (hB2.out.kept (Kept.below hq))
  replace hB3 := Lib.hid (hB3.out.kept (Kept.below hq))
  replace hB4 := Lib.hid (hB4.out.kept (Kept.below hq))
  replace hB5 := Lib.hid (hB5.out.kept (Kept.below hq))
  replace hB6 := Lib.hid (hB6.out.kept (Kept.below hq))
  replace hC0 := Lib.hid (hC0.out.kept (Kept.below hq))
  replace ch := Lib.hid (ch.out.trans (hq.mono ch.out.size))
  clear hq
  replace hC1 := Lib.hid hC1
  go_wp2_with fail
  refine (tpair_ok _ .nil _ (.pointer none) _ hC1.out rfl (by decide) (by decide)).mono ?_
  rintro e w20 ⟨qC2, rfl, hC2, hq⟩
  replace hp := Lib.hid ((hp.out.below hq).mono hq.size)
  replace hD := Lib.hid (hD.out.kept (Kept.below hq))
  replace hX := Lib.hid (hX.out.kept (Kept.below hq))
  replace hm := Lib.hid ((hm.out.below hq).mono hq.size)
  replace hI := Lib.hid (hI.out.kept (Kept.below hq))
  replace hZ := Lib.hid (hZ.out.kept (Kept.below hq))
  replace hA0 := Lib.hid (hA0.out.kept (Kept.below hq))
  replace hA1 := Lib.hid (hA1.out.kept (Kept.below hq))
  replace hA2 := Lib.hid (hA2.out.kept (Kept.below hq))
  replace hA3 := Lib.hid (hA3.out.kept (Kept.below hq))
  replace hB0 := Lib.hid (hB0.out.kept (Kept.below hq))
  replace hB1 := Lib.hid (hB1.out.kept (Kept.below hq))
  replace hB2 := Lib.hid (hB2.out.kept (Kept.below hq))
  replace hB3 := Lib.hid (hB3.out.kept (Kept.below hq))
  replace hB4 := Lib.hid (hB4.out.kept (Kept.below hq))
  replace hB5 := Lib.hid (hB5.out.kept (Kept.below hq))
  replace hB6 := Lib.hid (hB6.out.kept (Kept.below hq))
  replace hC0 := Lib.hid (hC0.out.kept (Kept.below hq))
  replace hC1 := Lib.hid (hC1.out.kept (Kept.below hq))
  replace ch := Lib.hid (ch.out.trans (hq.mono ch.out.size))
  clear hq
  replace hC2 := Lib.hid hC2
  go_wp2_with fail
  refine (tpair_ok _ _ _ _ _ hC0.out hC2.out (by decide) (by decide)).mono ?_
  rintro e w21 ⟨qC3, rfl, hC3, hq⟩
  replace hp := Lib.hid ((hp.out.below hq).mono hq.size)
  replace hD := Lib.hid (hD.out.kept (Kept.below hq))
  replace hX := Lib.hid (hX.out.kept (Kept.below hq))
  replace hm := Lib.hid ((hm.out.below hq).mono hq.size)
  replace hI := Lib.hid (hI.out.kept (Kept.below hq))
  replace hZ := Lib.hid (hZ.out.kept (Kept.below hq))
  replace hA0 := Lib.hid (hA0.out.kept (Kept.below hq))
  replace hA1 := Lib.hid (hA1.out.kept (Kept.below hq))
  replace hA2 := Lib.hid (hA2.out.kept (Kept.below hq))
  replace hA3 := Lib.hid (hA3.out.kept (Kept.below hq))
  replace hB0 := Lib.hid (hB0.out.kept (Kept.below hq))
  replace hB1 := Lib.hid (hB1.out.kept (Kept.below hq))
  replace hB2 := Lib.hid (hB2.out.kept (Kept.below hq))
  replace hB3 := Lib.hid (hB3.out.kept (Kept.below hq))
  replace hB4 := Lib.hid (hB4.out.kept (Kept.below hq))
  replace hB5 := Lib.hid (hB5.out.kept (Kept.below hq))
  replace hB6 := Lib.hid (hB6.out.kept (Kept.below hq))
  replace hC0 := Lib.hid (hC0.out.kept (Kept.below hq))
  replace hC1 := Lib.hid (hC1.out.kept (Kept.below hq))
  replace hC2 := Lib.hid (hC2.out.kept (Kept.below hq))
  replace ch := Lib.hid (ch.out.trans (hq.mono ch.out.size))
  clear hq
  replace hC3 := Lib.hid hC3
  go_wp2_with fail
  refine (tpair_ok _ _ _ _ _ hC3.out hX.out (by have h1 := N1S.out; have h2 := N2S.out; have h3 := N0S.out; (try simp only [Tr.size, h1, h3]); have := ZD.out; have := ZX.out; omega) (by have h1 := N1S.out; have h2 := N2S.out; have h3 := N0S.out; (try simp only [Tr.size, h1, h2, h3]); have := ZD.out; have := ZX.out; omega)).mono ?_
  rintro e w22 ⟨qE1, rfl, hE1, hq⟩
  replace hp := Lib.hid ((hp.out.below hq).mono hq.size)
  replace hD := Lib.hid (hD.out.kept (Kept.below hq))
  replace hX := Lib.hid (hX.out.kept (Kept.below hq))
  replace hm := Lib.hid ((hm.out.below hq).mono hq.size)
  replace hI := Lib.hid (hI.out.kept (Kept.below hq))
  replace hZ := Lib.hid (hZ.out.kept (Kept.below hq))
  replace hA0 := Lib.hid (hA0.out.kept (Kept.below hq))
  replace hA1 := Lib.hid (hA1.out.kept (Kept.below hq))
  replace hA2 := Lib.hid (hA2.out.kept (Kept.below hq))
  replace hA3 := Lib.hid (hA3.out.kept (Kept.below hq))
  replace hB0 := Lib.hid (hB0.out.kept (Kept.below hq))
  replace hB1 := Lib.hid (hB1.out.kept (Kept.below hq))
  replace hB2 := Lib.hid (hB2.out.kept (Kept.below hq))
  replace hB3 := Lib.hid (hB3.out.kept (Kept.below hq))
  replace hB4 := Lib.hid (hB4.out.kept (Kept.below hq))
  replace hB5 := Lib.hid (hB5.out.kept (Kept.below hq))
  replace hB6 := Lib.hid (hB6.out.kept (Kept.below hq))
  replace hC0 := Lib.hid (hC0.out.kept (Kept.below hq))
  replace hC1 := Lib.hid (hC1.out.kept (Kept.below hq))
  replace hC2 := Lib.hid (hC2.out.kept (Kept.below hq))
  replace hC3 := Lib.hid (hC3.out.kept (Kept.below hq))
  replace ch := Lib.hid (ch.out.trans (hq.mono ch.out.size))
  clear hq
  replace hE1 := Lib.hid hE1
  go_wp2_with fail
  refine (tpair_ok _ _ _ _ _ hB6.out hE1.out (by have h1 := N1S.out; have h2 := N2S.out; have h3 := N0S.out; (try simp only [Tr.size, h1, h2, h3]); have := ZD.out; have := ZX.out; omega) (by have h1 := N1S.out; have h2 := N2S.out; have h3 := N0S.out; (try simp only [Tr.size, h1, h3]); have := ZD.out; have := ZX.out; omega)).mono ?_
  rintro e w23 ⟨qE2, rfl, hE2, hq⟩
  replace hp := Lib.hid ((hp.out.below hq).mono hq.size)
  replace hD := Lib.hid (hD.out.kept (Kept.below hq))
  replace hX := Lib.hid (hX.out.kept (Kept.below hq))
  replace hm := Lib.hid ((hm.out.below hq).mono hq.size)
  replace hI := Lib.hid (hI.out.kept (Kept.below hq))
  replace hZ := Lib.hid (hZ.out.kept (Kept.below hq))
  replace hA0 := Lib.hid (hA0.out.kept (Kept.below hq))
  replace hA1 := Lib.hid (hA1.out.kept (Kept.below hq))
  replace hA2 := Lib.hid (hA2.out.kept (Kept.below hq))
  replace hA3 := Lib.hid (hA3.out.kept (Kept.below hq))
  replace hB0 := Lib.hid (hB0.out.kept (Kept.below hq))
  replace hB1 := Lib.hid (hB1.out.kept (Kept.below hq))
  replace hB2 := Lib.hid (hB2.out.kept (Kept.below hq))
  replace hB3 := Lib.hid (hB3.out.kept (Kept.below hq))
  replace hB4 := Lib.hid (hB4.out.kept (Kept.below hq))
  replace hB5 := Lib.hid (hB5.out.kept (Kept.below hq))
  replace hB6 := Lib.hid (hB6.out.kept (Kept.below hq))
  replace hC0 := Lib.hid (hC0.out.kept (Kept.below hq))
  replace hC1 := Lib.hid (hC1.out.kept (Kept.below hq))
  replace hC2 := Lib.hid (hC2.out.kept (Kept.below hq))
  replace hC3 := Lib.hid (hC3.out.kept (Kept.below hq))
  replace hE1 := Lib.hid (hE1.out.kept (Kept.below hq))
  replace ch := Lib.hid (ch.out.trans (hq.mono ch.out.size))
  clear hq
  replace hE2 := Lib.hid hE2
  go_wp2_with fail
  refine (tpair_ok _ _ _ _ _ hA3.out hE2.out (by have h1 := N1S.out; have h2 := N2S.out; have h3 := N0S.out; (try simp only [Tr.size, h1, h3]); have := ZD.out; have := ZX.out; omega) (by have h1 := N1S.out; have h2 := N2S.out; have h3 := N0S.out; (try simp only [Tr.size, h1, h2, h3]); have := ZD.out; have := ZX.out; omega)).mono ?_
  rintro e w24 ⟨qE3, rfl, hE3, hq⟩
  replace hp := Lib.hid ((hp.out.below hq).mono hq.size)
  replace hD := Lib.hid (hD.out.kept (Kept.below hq))
  replace hX := Lib.hid (hX.out.kept (Kept.below hq))
  replace hm := Lib.hid ((hm.out.below hq).mono hq.size)
  replace hI := Lib.hid (hI.out.kept (Kept.below hq))
  replace hZ := Lib.hid (hZ.out.kept (Kept.below hq))
  replace hA0 := Lib.hid (hA0.out.kept (Kept.below hq))
  replace hA1 := Lib.hid (hA1.out.kept (Kept.below hq))
  replace hA2 := Lib.hid (hA2.out.kept (Kept.below hq))
  replace hA3 := Lib.hid (hA3.out.kept (Kept.below hq))
  replace hB0 := Lib.hid (hB0.out.kept (Kept.below hq))
  replace hB1 := Lib.hid (hB1.out.kept (Kept.below hq))
  replace hB2 := Lib.hid (hB2.out.kept (Kept.below hq))
  replace hB3 := Lib.hid (hB3.out.kept (Kept.below hq))
  replace hB4 := Lib.hid (hB4.out.kept (Kept.below hq))
  replace hB5 := Lib.hid (hB5.out.kept (Kept.below hq))
  replace hB6 := Lib.hid (hB6.out.kept (Kept.below hq))
  replace hC0 := Lib.hid (hC0.out.kept (Kept.below hq))
  replace hC1 := Lib.hid (hC1.out.kept (Kept.below hq))
  replace hC2 := Lib.hid (hC2.out.kept (Kept.below hq))
  replace hC3 := Lib.hid (hC3.out.kept (Kept.below hq))
  replace hE1 := Lib.hid (hE1.out.kept (Kept.below hq))
  replace hE2 := Lib.hid (hE2.out.kept (Kept.below hq))
  replace ch := Lib.hid (ch.out.trans (hq.mono ch.out.size))
  clear hq
  replace hE3 := Lib.hid hE3
  have hE4 : NodeP 102 w24 (metaT (toTr x) (toTr d)) (.pointer (some qE3)) := hE3.out
  go_wp2_with fail
  refine (tequal_same hZ.out hE4 (by rw [metaT_size]; have := ZX.out; have := ZD.out; omega)).mono ?_
  rintro e w25 ⟨rfl, hq⟩
  replace hp := Lib.hid ((hp.out.below hq).mono hq.size)
  replace hD := Lib.hid (hD.out.kept (Kept.below hq))
  replace hX := Lib.hid (hX.out.kept (Kept.below hq))
  replace hm := Lib.hid ((hm.out.below hq).mono hq.size)
  replace hI := Lib.hid (hI.out.kept (Kept.below hq))
  replace hZ := Lib.hid (hZ.out.kept (Kept.below hq))
  replace hA0 := Lib.hid (hA0.out.kept (Kept.below hq))
  replace hA1 := Lib.hid (hA1.out.kept (Kept.below hq))
  replace hA2 := Lib.hid (hA2.out.kept (Kept.below hq))
  replace hA3 := Lib.hid (hA3.out.kept (Kept.below hq))
  replace hB0 := Lib.hid (hB0.out.kept (Kept.below hq))
  replace hB1 := Lib.hid (hB1.out.kept (Kept.below hq))
  replace hB2 := Lib.hid (hB2.out.kept (Kept.below hq))
  replace hB3 := Lib.hid (hB3.out.kept (Kept.below hq))
  replace hB4 := Lib.hid (hB4.out.kept (Kept.below hq))
  replace hB5 := Lib.hid (hB5.out.kept (Kept.below hq))
  replace hB6 := Lib.hid (hB6.out.kept (Kept.below hq))
  replace hC0 := Lib.hid (hC0.out.kept (Kept.below hq))
  replace hC1 := Lib.hid (hC1.out.kept (Kept.below hq))
  replace hC2 := Lib.hid (hC2.out.kept (Kept.below hq))
  replace hC3 := Lib.hid (hC3.out.kept (Kept.below hq))
  replace hE1 := Lib.hid (hE1.out.kept (Kept.below hq))
  replace hE2 := Lib.hid (hE2.out.kept (Kept.below hq))
  replace hE3 := Lib.hid (hE3.out.kept (Kept.below hq))
  replace ch := Lib.hid (ch.out.trans (hq.mono ch.out.size))
  clear hq
  clear hE4
  clear hI
  clear hZ
  clear hA0
  clear hA1
  clear hA2
  clear hA3
  clear hB0
  clear hB1
  clear hB2
  clear hB3
  clear hB4
  clear hB5
  clear hB6
  clear hC0
  clear hC1
  clear hC2
  clear hC3
  clear hE1
  clear hE2
  clear hE3
  have hgp := goodB_parts HG.out
  have VP := Lib.hid (goodB_valid HG.out (by omega) (by omega))
  have HLEN := Lib.hid hgp.1
  have HTRE := Lib.hid hgp.2.1
  have HRP := Lib.hid hgp.2.2
  clear hgp
  have TD := Lib.hid (growB_tree HD.out).1
  have VS := Lib.hid (show validB (specL d p) = true from fits_valid (specL_right _ _ TD.out HRP.out) (by rw [specL_length]; have := HLEN.out; omega) (by rw [specL_trees]; have := HTRE.out; have := (growB_tree HD.out).2; omega))
  have CP := Lib.hid (show codeN p ≤ 300000 by have := codeN_small p HRP.out (by have := HLEN.out; omega); have := HLEN.out; have := HTRE.out; omega)
  have CZ := Lib.hid (show (codeT p).size ≤ 300000 by rw [codeT_size VP.out]; exact CP.out)
  have CS := Lib.hid (show codeN (specL d p) ≤ 400000 by have := codeN_small (specL d p) (validB_all VS.out) (by rw [specL_length]; have := HLEN.out; omega); rw [specL_length, specL_trees] at this; have := HLEN.out; have := HTRE.out; have := (growB_tree HD.out).2; omega)
  go_wp2_with fail
  refine (tgood_any _ p 200 5000 (by omega) (by omega) _ hp.out).mono ?_
  rintro e w26 ⟨rfl, hq⟩
  replace hp := Lib.hid ((hp.out.below hq).mono hq.size)
  replace hD := Lib.hid (hD.out.kept (Kept.below hq))
  replace hX := Lib.hid (hX.out.kept (Kept.below hq))
  replace hm := Lib.hid ((hm.out.below hq).mono hq.size)
  replace ch := Lib.hid (ch.out.trans (hq.mono ch.out.size))
  clear hq
  rw [HG.out]
  go_wp2_with fail
  refine (ttwin_any _ p (by have := HLEN.out; omega) _ hp.out).mono ?_
  rintro e w27 ⟨ta, tc, rfl, hT, hq⟩
  replace hp := Lib.hid ((hp.out.below hq).mono hq.size)
  replace hD := Lib.hid (hD.out.kept (Kept.below hq))
  replace hX := Lib.hid (hX.out.kept (Kept.below hq))
  replace hm := Lib.hid ((hm.out.below hq).mono hq.size)
  replace ch := Lib.hid (ch.out.trans (hq.mono ch.out.size))
  clear hq
  rw [HPN.out] at hT ⊢
  replace hT := Lib.hid (hT.row (by have := HLEN.out; omega))
  go_wp2_with fail
  refine (spec_fine _ p d _ hT.out VP.out TD.out VS.out).mono ?_
  rintro e w28 ⟨vs, rfl, hS, hq⟩
  clear hT
  replace hp := Lib.hid ((hp.out.below hq).mono hq.size)
  replace hD := Lib.hid (hD.out.kept (Kept.below hq))
  replace hX := Lib.hid (hX.out.kept (Kept.below hq))
  replace hm := Lib.hid ((hm.out.below hq).mono hq.size)
  replace ch := Lib.hid (ch.out.trans (hq.mono ch.out.size))
  clear hq
  replace hS := Lib.hid hS
  go_wp2_with fail
  refine (twhole_any _ _ true VS.out _ hS.out).mono ?_
  rintro e w29 ⟨rfl, hq⟩
  replace hp := Lib.hid ((hp.out.below hq).mono hq.size)
  replace hD := Lib.hid (hD.out.kept (Kept.below hq))
  replace hX := Lib.hid (hX.out.kept (Kept.below hq))
  replace hm := Lib.hid ((hm.out.below hq).mono hq.size)
  replace hS := Lib.hid ((hS.out.below hq).mono hq.size)
  replace ch := Lib.hid (ch.out.trans (hq.mono ch.out.size))
  clear hq
  go_wp2_with fail
  refine (tcode_any _ p _ hp.out VP.out (by have := CP.out; omega)).mono ?_
  rintro e w30 ⟨qc, rfl, hC, hq⟩
  replace hp := Lib.hid ((hp.out.below hq).mono hq.size)
  replace hD := Lib.hid (hD.out.kept (Kept.below hq))
  replace hX := Lib.hid (hX.out.kept (Kept.below hq))
  replace hm := Lib.hid ((hm.out.below hq).mono hq.size)
  replace hS := Lib.hid ((hS.out.below hq).mono hq.size)
  replace ch := Lib.hid (ch.out.trans (hq.mono ch.out.size))
  clear hq
  replace hC := Lib.hid hC
  go_wp2_with fail
  refine (tpair_ok _ _ _ _ _ hC.out hD.out (by have := CZ.out; omega) (by have := ZD.out; omega)).mono ?_
  rintro e w31 ⟨qi, rfl, hI, hq⟩
  replace hp := Lib.hid ((hp.out.below hq).mono hq.size)
  replace hD := Lib.hid (hD.out.kept (Kept.below hq))
  replace hX := Lib.hid (hX.out.kept (Kept.below hq))
  replace hm := Lib.hid ((hm.out.below hq).mono hq.size)
  replace hS := Lib.hid ((hS.out.below hq).mono hq.size)
  replace hC := Lib.hid (hC.out.kept (Kept.below hq))
  replace ch := Lib.hid (ch.out.trans (hq.mono ch.out.size))
  clear hq
  replace hI := Lib.hid hI
  go_wp2_with fail
  refine (tplay_doneM 100 _ rfl (by omega) (meta_small (codeT p) (toTr d) (by have := CZ.out; have := ZD.out; omega) 100 (by omega)) hm.out meta_valid hI.out (by simp only [Tr.size]; have := CZ.out; have := ZD.out; omega)).mono ?_
  rintro e w32 ⟨qz, rfl, hZ, hq⟩
  replace hp := Lib.hid ((hp.out.below hq).mono hq.size)
  replace hD := Lib.hid (hD.out.kept (Kept.below hq))
  replace hX := Lib.hid (hX.out.kept (Kept.below hq))
  replace hm := Lib.hid ((hm.out.below hq).mono hq.size)
  replace hS := Lib.hid ((hS.out.below hq).mono hq.size)
  replace hC := Lib.hid (hC.out.kept (Kept.below hq))
  replace hI := Lib.hid (hI.out.kept (Kept.below hq))
  replace ch := Lib.hid (ch.out.trans (hq.mono ch.out.size))
  clear hq
  replace hZ := Lib.hid hZ
  go_wp2_with fail
  refine (tcode_any _ _ _ hS.out VS.out (by have := CS.out; omega)).mono ?_
  rintro e w33 ⟨qs, rfl, hCS, hq⟩
  replace hp := Lib.hid ((hp.out.below hq).mono hq.size)
  replace hD := Lib.hid (hD.out.kept (Kept.below hq))
  replace hX := Lib.hid (hX.out.kept (Kept.below hq))
  replace hm := Lib.hid ((hm.out.below hq).mono hq.size)
  replace hS := Lib.hid ((hS.out.below hq).mono hq.size)
  replace hC := Lib.hid (hC.out.kept (Kept.below hq))
  replace hI := Lib.hid (hI.out.kept (Kept.below hq))
  replace hZ := Lib.hid (hZ.out.kept (Kept.below hq))
  replace ch := Lib.hid (ch.out.trans (hq.mono ch.out.size))
  clear hq
  replace hCS := Lib.hid hCS
  have hE4 : NodeP 102 w33 (metaT (codeT p) (toTr d)) (.pointer qs) := hCS.out
  go_wp2_with fail
  refine (tequal_same hZ.out hE4 (by rw [metaT_size]; have := CZ.out; have := ZD.out; omega)).mono ?_
  rintro e w34 ⟨rfl, hq⟩
  replace hp := Lib.hid ((hp.out.below hq).mono hq.size)
  replace hD := Lib.hid (hD.out.kept (Kept.below hq))
  replace hX := Lib.hid (hX.out.kept (Kept.below hq))
  replace hm := Lib.hid ((hm.out.below hq).mono hq.size)
  replace hS := Lib.hid ((hS.out.below hq).mono hq.size)
  replace hC := Lib.hid (hC.out.kept (Kept.below hq))
  replace hI := Lib.hid (hI.out.kept (Kept.below hq))
  replace hZ := Lib.hid (hZ.out.kept (Kept.below hq))
  replace hCS := Lib.hid (hCS.out.kept (Kept.below hq))
  replace ch := Lib.hid (ch.out.trans (hq.mono ch.out.size))
  clear hq
  clear hE4
  clear hC
  clear hI
  clear hZ
  clear hCS
  clear hm
  go_wp2_with fail
  refine (tpair_ok _ _ _ _ _ hD.out hX.out (by have := ZD.out; omega) (by have := ZX.out; omega)).mono ?_
  rintro e w35 ⟨qj, rfl, hJ, hq⟩
  replace hp := Lib.hid ((hp.out.below hq).mono hq.size)
  replace hD := Lib.hid (hD.out.kept (Kept.below hq))
  replace hX := Lib.hid (hX.out.kept (Kept.below hq))
  replace hS := Lib.hid ((hS.out.below hq).mono hq.size)
  replace ch := Lib.hid (ch.out.trans (hq.mono ch.out.size))
  clear hq
  replace hJ := Lib.hid hJ
  have ZJ := Lib.hid (show (Tr.pair (toTr d) (toTr x)).size ≤ 2000000 by simp only [Tr.size]; have := ZX.out; have := ZD.out; omega)
  rcases spec_follow HRP.out d (toTr d) (toTr x) rfl ZJ.out 500 with ⟨sF, sG, m, h1, h2, h3, h4⟩ | ⟨sF, h1, h2⟩ | ⟨h1, h2⟩
  · have HR := Lib.hid (show ∃ s, goF p 500 0 (startS (.pair (toTr d) (toTr x))) = .done s m ∧ getR s.regs 0 = getR sF.regs 0 from ⟨_, h1, rfl⟩)
    have HS3 := Lib.hid (show ∃ s, goF (specL d p) (m + 3) 0 (startS (toTr x)) = .done s (m + 3) ∧ getR s.regs 0 = getR sF.regs 0 from ⟨_, goF_exact h3, h4⟩)
    have HM5 := Lib.hid h2
    have hm5 : (m : Int) ≤ 500 := by omega
    clear h1 h2 h3 h4
    go_wp2_with fail
    refine (tplay_doneM 500 _ rfl (by omega) HR.out hp.out VP.out hJ.out ZJ.out).mono ?_
    rintro e w36 ⟨qr, rfl, hR, hq⟩
    replace hp := Lib.hid ((hp.out.below hq).mono hq.size)
    replace hD := Lib.hid (hD.out.kept (Kept.below hq))
    replace hX := Lib.hid (hX.out.kept (Kept.below hq))
    replace hS := Lib.hid ((hS.out.below hq).mono hq.size)
    replace hJ := Lib.hid (hJ.out.kept (Kept.below hq))
    replace ch := Lib.hid (ch.out.trans (hq.mono ch.out.size))
    clear hq
    replace hR := Lib.hid hR
    go_wp2_with fail
    refine (treturns_ok (m + 3) _ (by go_num) (by have := HM5.out; omega) hS.out VS.out hX.out hR.out (by have := ZX.out; omega) HS3.out).mono ?_
    rintro e w37 ⟨rfl, hq⟩
    replace hp := Lib.hid ((hp.out.below hq).mono hq.size)
    replace hD := Lib.hid (hD.out.kept (Kept.below hq))
    replace hX := Lib.hid (hX.out.kept (Kept.below hq))
    replace hS := Lib.hid ((hS.out.below hq).mono hq.size)
    replace hJ := Lib.hid (hJ.out.kept (Kept.below hq))
    replace hR := Lib.hid (hR.out.kept (Kept.below hq))
    replace ch := Lib.hid (ch.out.trans (hq.mono ch.out.size))
    clear hq
    go_wp2_with fail
    refine (supplies_any _).mono ?_
    rintro e w38 ⟨rfl, hq⟩
    replace hp := Lib.hid ((hp.out.below hq).mono hq.size)
    replace hD := Lib.hid (hD.out.kept (Kept.below hq))
    replace hX := Lib.hid (hX.out.kept (Kept.below hq))
    replace hS := Lib.hid ((hS.out.below hq).mono hq.size)
    replace hJ := Lib.hid (hJ.out.kept (Kept.below hq))
    replace hR := Lib.hid (hR.out.kept (Kept.below hq))
    replace ch := Lib.hid (ch.out.trans (hq.mono ch.out.size))
    clear hq
    go_wp2
    go_ret
    exact ⟨rfl, ch.out⟩
  · have HR := Lib.hid h1
    have HND := Lib.hid (show NotD (specL d p) (startS (toTr x)) 503 from fun s k e => by rcases h2 with ⟨s2, h⟩ | h <;> rw [h] at e <;> cases e)
    clear h1 h2
    go_wp2_with fail
    refine (tplay_fuel 500 _ rfl (by omega) HR.out hp.out VP.out hJ.out ZJ.out).mono ?_
    rintro e w36 ⟨qr, jr, rfl, hq⟩
    replace hp := Lib.hid ((hp.out.below hq).mono hq.size)
    replace hD := Lib.hid (hD.out.kept (Kept.below hq))
    replace hX := Lib.hid (hX.out.kept (Kept.below hq))
    replace hS := Lib.hid ((hS.out.below hq).mono hq.size)
    replace hJ := Lib.hid (hJ.out.kept (Kept.below hq))
    replace ch := Lib.hid (ch.out.trans (hq.mono ch.out.size))
    clear hq
    go_wp2_with fail
    refine (tlasts_ok 503 _ rfl (by omega) hS.out VS.out hX.out (by have := ZX.out; omega) HND.out).mono ?_
    rintro e w37 ⟨rfl, hq⟩
    replace hp := Lib.hid ((hp.out.below hq).mono hq.size)
    replace hD := Lib.hid (hD.out.kept (Kept.below hq))
    replace hX := Lib.hid (hX.out.kept (Kept.below hq))
    replace hS := Lib.hid ((hS.out.below hq).mono hq.size)
    replace hJ := Lib.hid (hJ.out.kept (Kept.below hq))
    replace ch := Lib.hid (ch.out.trans (hq.mono ch.out.size))
    clear hq
    go_wp2_with fail
    refine (supplies_any _).mono ?_
    rintro e w38 ⟨rfl, hq⟩
    replace hp := Lib.hid ((hp.out.below hq).mono hq.size)
    replace hD := Lib.hid (hD.out.kept (Kept.below hq))
    replace hX := Lib.hid (hX.out.kept (Kept.below hq))
    replace hS := Lib.hid ((hS.out.below hq).mono hq.size)
    replace hJ := Lib.hid (hJ.out.kept (Kept.below hq))
    replace ch := Lib.hid (ch.out.trans (hq.mono ch.out.size))
    clear hq
    go_wp2
    go_ret
    exact ⟨rfl, ch.out⟩
  · have HR := Lib.hid h1
    clear h1 h2
    go_wp2_with fail
    refine (tplay_big 500 _ rfl (by omega) HR.out hp.out VP.out hJ.out ZJ.out).mono ?_
    rintro e w36 ⟨qr, jr, rfl, hq⟩
    replace hp := Lib.hid ((hp.out.below hq).mono hq.size)
    replace hD := Lib.hid (hD.out.kept (Kept.below hq))
    replace hX := Lib.hid (hX.out.kept (Kept.below hq))
    replace hS := Lib.hid ((hS.out.below hq).mono hq.size)
    replace hJ := Lib.hid (hJ.out.kept (Kept.below hq))
    replace ch := Lib.hid (ch.out.trans (hq.mono ch.out.size))
    clear hq
    go_wp2_with fail
    refine (supplies_any _).mono ?_
    rintro e w37 ⟨rfl, hq⟩
    replace hp := Lib.hid ((hp.out.below hq).mono hq.size)
    replace hD := Lib.hid (hD.out.kept (Kept.below hq))
    replace hX := Lib.hid (hX.out.kept (Kept.below hq))
    replace hS := Lib.hid ((hS.out.below hq).mono hq.size)
    replace hJ := Lib.hid (hJ.out.kept (Kept.below hq))
    replace ch := Lib.hid (ch.out.trans (hq.mono ch.out.size))
    clear hq
    go_wp2
    go_ret
    exact ⟨rfl, ch.out⟩

theorem law_TopSpec {w : World} (vp : Value) (p : List Ins) (hhp : InsRow w w.heap.size vp p) (d : ByteArray) (hds : d.size ≤ 140737488355328) (x : ByteArray) (hxs : x.size ≤ 140737488355328) :
    Calls Try.prog 12 #[vp, .string d, .string x] w fun e w' => e = .returned (.bool true) ∧ Below w.heap.size w w' := by
  cases h1 : growB d 2000 with
  | false =>
    cases h2 : growB x 2000 with
    | false => exact ts_a vp p hhp d hds x hxs (Lib.hid h1) (Lib.hid h2)
    | true => exact ts_b vp p hhp d hds x hxs (Lib.hid h1) (Lib.hid h2)
  | true =>
    cases h2 : growB x 2000 with
    | false => exact ts_c vp p hhp d hds x hxs (Lib.hid h1) (Lib.hid h2)
    | true =>
      cases h3 : goodB p 200 5000 with
      | false => exact ts_d vp p hhp d hds x hxs (Lib.hid h1) (Lib.hid h2) (Lib.hid h3)
      | true => exact ts_e vp p hhp d hds x hxs (Lib.hid h1) (Lib.hid h2) (Lib.hid h3)
end Go.Proofs.Ytlaeljkjdfffjaa


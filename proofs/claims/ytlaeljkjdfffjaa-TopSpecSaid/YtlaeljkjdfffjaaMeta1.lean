/- spec: Meta. -/
import Derived.Test.YtlaeljkjdfffjaaAsm3
import Derived.Test.YtlaeljkjdfffjaaMetaP
namespace Go.Proofs.Ytlaeljkjdfffjaa
open Go.RowKit Go.Maps

theorem AsmG.put_sz (g : AsmG) (x : Ins) : (g.put x).sz = g.sz + 1 := by unfold AsmG.sz AsmG.put; simp; omega
def metaG : AsmG := ⟨metaL, .map [], .map [], 0⟩
theorem metaG_okFr : okFr metaG = true := rfl
theorem metaG_okPl : okPl metaG = true := rfl
theorem metaG_sz : metaG.sz ≤ 1000000 := by decide
theorem metaG_done : metaG.done = metaL := by decide +kernel
set_option maxRecDepth 40000 in
set_option maxHeartbeats 40000000 in
theorem meta_any (w : World) : Calls Try.prog 42 #[] w fun e w' => ∃ v, e = .returned v ∧ OwnI w' w.heap.size v metaL ∧ Below w.heap.size w w' := by
  have hs := enters_of Try.func67 (by kernel_rfl) rfl
  have hc := enters_of Try.func66 (by kernel_rfl) rfl
  go_enter Try.func42, Try.ntmps42
  go_wp2_with fail
  refine (anew_any _).mono ?_
  rintro e wN ⟨ba, b1, b2, rfl, hA, hb⟩
  obtain ⟨B, hB⟩ : ∃ z, w.heap.size = z := ⟨_, rfl⟩
  rw [hB] at hA hb
  have hC := Lib.hid (show AChg B w wN from ⟨hb, fun T _ _ => Kept.below (by rw [hB]; exact hb)⟩)
  clear hb
  obtain ⟨g, hg0⟩ : ∃ z, AsmG.new = z := ⟨_, rfl⟩
  rw [hg0] at hA
  have HB := Lib.hid (show g.sz ≤ 0 by rw [← hg0]; decide)
  replace hA := Lib.hid hA
  replace hg0 := Lib.hid hg0
  go_wp2_with fail
  obtain ⟨u0, hW⟩ : ∃ z, wN.alloc (.cells #[.int .i64 0, .int .i64 1, .int .i64 0, .int .i64 0, .string ⟨#[48]⟩] 41) = z := ⟨_, rfl⟩
  rw [hW]
  have hq : Below wN.heap.size wN u0 := by rw [← hW]; exact (Below.refl _ _).alloc (Nat.le_refl _) _
  have h1 := Lib.hid (show InsRow u0 u0.heap.size (.slice (some ⟨wN.heap.size, 0, none⟩) 1 1) [setI 1 ⟨#[48]⟩] by rw [← hW]; exact (OwnI.lit wN [setI 1 ⟨#[48]⟩] (by simp; exact setI_wf _ _ (by omega) (by decide)) (by simp)).row (by simp))
  clear hW
  have hlt := hA.out.lt.1
  have hle := hA.out.le.1
  replace hC := Lib.hid (hC.out.trans (AChg.of_below hq (by omega)))
  replace hA := Lib.hid (hA.out.below hq)
  clear hlt hle
  clear hq
  refine (code_at _ [setI 1 ⟨#[48]⟩] _ _ h1.out (by decide +kernel) clear_code (by decide +kernel)).mono ?_
  rintro e v0 ⟨rfl, hq⟩
  have hlt := hA.out.lt.1
  have hle := hA.out.le.1
  replace hC := Lib.hid (hC.out.trans (AChg.of_below hq (by omega)))
  replace hA := Lib.hid (hA.out.below hq)
  clear hlt hle
  clear h1 hq
  go_wp2_with fail
  obtain ⟨u1, hW⟩ : ∃ z, v0.alloc (.cells #[.int .i64 2, .int .i64 0, .int .i64 1, .int .i64 0, .string ⟨#[]⟩] 41) = z := ⟨_, rfl⟩
  rw [hW]
  have hq : Below v0.heap.size v0 u1 := by rw [← hW]; exact (Below.refl _ _).alloc (Nat.le_refl _) _
  have h1 := Lib.hid (show InsRow u1 u1.heap.size (.slice (some ⟨v0.heap.size, 0, none⟩) 1 1) [consI 0 1 0] by rw [← hW]; exact (OwnI.lit v0 [consI 0 1 0] (by simp; exact consI_wf _ _ _ (by omega) (by omega) (by omega)) (by simp)).row (by simp))
  clear hW
  have hlt := hA.out.lt.1
  have hle := hA.out.le.1
  replace hC := Lib.hid (hC.out.trans (AChg.of_below hq (by omega)))
  replace hA := Lib.hid (hA.out.below hq)
  clear hlt hle
  clear hq
  refine (code_at _ [consI 0 1 0] _ _ h1.out (by decide +kernel) put_code (by decide +kernel)).mono ?_
  rintro e v1 ⟨rfl, hq⟩
  have hlt := hA.out.lt.1
  have hle := hA.out.le.1
  replace hC := Lib.hid (hC.out.trans (AChg.of_below hq (by omega)))
  replace hA := Lib.hid (hA.out.below hq)
  clear hlt hle
  clear h1 hq
  go_wp2_with fail
  refine (atail_any hA.out 1 0 (by omega) (by omega) (by have hb := HB.out; omega)).mono ?_
  rintro e w1 ⟨rfl, hA, hq⟩
  replace hC := Lib.hid (hC.out.trans hq)
  clear hq
  obtain ⟨g1, hg1⟩ : ∃ z, g.put (tlI 1 0) = z := ⟨_, rfl⟩
  rw [hg1] at hA
  replace HB := Lib.hid (show g1.sz ≤ 1 by rw [← hg1]; have hb := HB.out; have h1 := AsmG.put_sz g (tlI 1 0); omega)
  replace hA := Lib.hid hA
  replace hg1 := Lib.hid hg1
  go_wp2_with fail
  refine (ahead_any hA.out 2 0 (by omega) (by omega) (by have hb := HB.out; omega)).mono ?_
  rintro e w2 ⟨rfl, hA, hq⟩
  replace hC := Lib.hid (hC.out.trans hq)
  clear hq
  obtain ⟨g2, hg2⟩ : ∃ z, g1.put (hdI 2 0) = z := ⟨_, rfl⟩
  rw [hg2] at hA
  replace HB := Lib.hid (show g2.sz ≤ 2 by rw [← hg2]; have hb := HB.out; have h1 := AsmG.put_sz g1 (hdI 2 0); omega)
  replace hA := Lib.hid hA
  replace hg2 := Lib.hid hg2
  go_wp2_with fail
  refine (aset_any hA.out 3 ⟨#[49, 49, 48, 49, 49, 48, 48, 48, 48]⟩ (by omega) (by decide) (by have hb := HB.out; omega)).mono ?_
  rintro e w3 ⟨rfl, hA, hq⟩
  replace hC := Lib.hid (hC.out.trans hq)
  clear hq
  obtain ⟨g3, hg3⟩ : ∃ z, g2.put (setI 3 ⟨#[49, 49, 48, 49, 49, 48, 48, 48, 48]⟩) = z := ⟨_, rfl⟩
  rw [hg3] at hA
  replace HB := Lib.hid (show g3.sz ≤ 3 by rw [← hg3]; have hb := HB.out; have h1 := AsmG.put_sz g2 (setI 3 ⟨#[49, 49, 48, 49, 49, 48, 48, 48, 48]⟩); omega)
  replace hA := Lib.hid hA
  replace hg3 := Lib.hid hg3
  go_wp2_with fail
  refine (ahead_any hA.out 3 3 (by omega) (by omega) (by have hb := HB.out; omega)).mono ?_
  rintro e w4 ⟨rfl, hA, hq⟩
  replace hC := Lib.hid (hC.out.trans hq)
  clear hq
  obtain ⟨g4, hg4⟩ : ∃ z, g3.put (hdI 3 3) = z := ⟨_, rfl⟩
  rw [hg4] at hA
  replace HB := Lib.hid (show g4.sz ≤ 4 by rw [← hg4]; have hb := HB.out; have h1 := AsmG.put_sz g3 (hdI 3 3); omega)
  replace hA := Lib.hid hA
  replace hg4 := Lib.hid hg4
  go_wp2_with fail
  refine (acons_any hA.out 2 3 2 (by omega) (by omega) (by omega) (by have hb := HB.out; omega)).mono ?_
  rintro e w5 ⟨rfl, hA, hq⟩
  replace hC := Lib.hid (hC.out.trans hq)
  clear hq
  obtain ⟨g5, hg5⟩ : ∃ z, g4.put (consI 2 3 2) = z := ⟨_, rfl⟩
  rw [hg5] at hA
  replace HB := Lib.hid (show g5.sz ≤ 5 by rw [← hg5]; have hb := HB.out; have h1 := AsmG.put_sz g4 (consI 2 3 2); omega)
  replace hA := Lib.hid hA
  replace hg5 := Lib.hid hg5
  go_wp2_with fail
  refine (aset_any hA.out 3 ⟨#[49, 49, 49, 48, 49, 48, 48, 49, 48, 49, 49, 48, 48, 48, 48]⟩ (by omega) (by decide) (by have hb := HB.out; omega)).mono ?_
  rintro e w6 ⟨rfl, hA, hq⟩
  replace hC := Lib.hid (hC.out.trans hq)
  clear hq
  obtain ⟨g6, hg6⟩ : ∃ z, g5.put (setI 3 ⟨#[49, 49, 49, 48, 49, 48, 48, 49, 48, 49, 49, 48, 48, 48, 48]⟩) = z := ⟨_, rfl⟩
  rw [hg6] at hA
  replace HB := Lib.hid (show g6.sz ≤ 6 by rw [← hg6]; have hb := HB.out; have h1 := AsmG.put_sz g5 (setI 3 ⟨#[49, 49, 49, 48, 49, 48, 48, 49, 48, 49, 49, 48, 48, 48, 48]⟩); omega)
  replace hA := Lib.hid hA
  replace hg6 := Lib.hid hg6
  go_wp2_with fail
  refine (ahead_any hA.out 3 3 (by omega) (by omega) (by have hb := HB.out; omega)).mono ?_
  rintro e w7 ⟨rfl, hA, hq⟩
  replace hC := Lib.hid (hC.out.trans hq)
  clear hq
  obtain ⟨g7, hg7⟩ : ∃ z, g6.put (hdI 3 3) = z := ⟨_, rfl⟩
  rw [hg7] at hA
  replace HB := Lib.hid (show g7.sz ≤ 7 by rw [← hg7]; have hb := HB.out; have h1 := AsmG.put_sz g6 (hdI 3 3); omega)
  replace hA := Lib.hid hA
  replace hg7 := Lib.hid hg7
  go_wp2_with fail
  refine (acons_any hA.out 2 3 2 (by omega) (by omega) (by omega) (by have hb := HB.out; omega)).mono ?_
  rintro e w8 ⟨rfl, hA, hq⟩
  replace hC := Lib.hid (hC.out.trans hq)
  clear hq
  obtain ⟨g8, hg8⟩ : ∃ z, g7.put (consI 2 3 2) = z := ⟨_, rfl⟩
  rw [hg8] at hA
  replace HB := Lib.hid (show g8.sz ≤ 8 by rw [← hg8]; have hb := HB.out; have h1 := AsmG.put_sz g7 (consI 2 3 2); omega)
  replace hA := Lib.hid hA
  replace hg8 := Lib.hid hg8
  go_wp2_with fail
  refine (aset_any hA.out 3 ⟨#[49, 48, 48]⟩ (by omega) (by decide) (by have hb := HB.out; omega)).mono ?_
  rintro e w9 ⟨rfl, hA, hq⟩
  replace hC := Lib.hid (hC.out.trans hq)
  clear hq
  obtain ⟨g9, hg9⟩ : ∃ z, g8.put (setI 3 ⟨#[49, 48, 48]⟩) = z := ⟨_, rfl⟩
  rw [hg9] at hA
  replace HB := Lib.hid (show g9.sz ≤ 9 by rw [← hg9]; have hb := HB.out; have h1 := AsmG.put_sz g8 (setI 3 ⟨#[49, 48, 48]⟩); omega)
  replace hA := Lib.hid hA
  replace hg9 := Lib.hid hg9
  go_wp2_with fail
  refine (acons_any hA.out 1 3 1 (by omega) (by omega) (by omega) (by have hb := HB.out; omega)).mono ?_
  rintro e w10 ⟨rfl, hA, hq⟩
  replace hC := Lib.hid (hC.out.trans hq)
  clear hq
  obtain ⟨g10, hg10⟩ : ∃ z, g9.put (consI 1 3 1) = z := ⟨_, rfl⟩
  rw [hg10] at hA
  replace HB := Lib.hid (show g10.sz ≤ 10 by rw [← hg10]; have hb := HB.out; have h1 := AsmG.put_sz g9 (consI 1 3 1); omega)
  replace hA := Lib.hid hA
  replace hg10 := Lib.hid hg10
  go_wp2_with fail
  refine (aset_any hA.out 3 ⟨#[48]⟩ (by omega) (by decide) (by have hb := HB.out; omega)).mono ?_
  rintro e w11 ⟨rfl, hA, hq⟩
  replace hC := Lib.hid (hC.out.trans hq)
  clear hq
  obtain ⟨g11, hg11⟩ : ∃ z, g10.put (setI 3 ⟨#[48]⟩) = z := ⟨_, rfl⟩
  rw [hg11] at hA
  replace HB := Lib.hid (show g11.sz ≤ 11 by rw [← hg11]; have hb := HB.out; have h1 := AsmG.put_sz g10 (setI 3 ⟨#[48]⟩); omega)
  replace hA := Lib.hid hA
  replace hg11 := Lib.hid hg11
  go_wp2_with fail
  refine (acons_any hA.out 1 3 1 (by omega) (by omega) (by omega) (by have hb := HB.out; omega)).mono ?_
  rintro e w12 ⟨rfl, hA, hq⟩
  replace hC := Lib.hid (hC.out.trans hq)
  clear hq
  obtain ⟨g12, hg12⟩ : ∃ z, g11.put (consI 1 3 1) = z := ⟨_, rfl⟩
  rw [hg12] at hA
  replace HB := Lib.hid (show g12.sz ≤ 12 by rw [← hg12]; have hb := HB.out; have h1 := AsmG.put_sz g11 (consI 1 3 1); omega)
  replace hA := Lib.hid hA
  replace hg12 := Lib.hid hg12
  go_wp2_with fail
  refine (acons_any hA.out 0 1 2 (by omega) (by omega) (by omega) (by have hb := HB.out; omega)).mono ?_
  rintro e w13 ⟨rfl, hA, hq⟩
  replace hC := Lib.hid (hC.out.trans hq)
  clear hq
  obtain ⟨g13, hg13⟩ : ∃ z, g12.put (consI 0 1 2) = z := ⟨_, rfl⟩
  rw [hg13] at hA
  replace HB := Lib.hid (show g13.sz ≤ 13 by rw [← hg13]; have hb := HB.out; have h1 := AsmG.put_sz g12 (consI 0 1 2); omega)
  replace hA := Lib.hid hA
  replace hg13 := Lib.hid hg13
  go_wp2_with fail
  have he : g13 = metaG := by rw [← hg13.out, ← hg12.out, ← hg11.out, ← hg10.out, ← hg9.out, ← hg8.out, ← hg7.out, ← hg6.out, ← hg5.out, ← hg4.out, ← hg3.out, ← hg2.out, ← hg1.out, ← hg0.out]; try rfl
  have hD := hA.out
  rw [he] at hD
  refine (adone_any hD metaG_okFr metaG_okPl metaG_sz).mono ?_
  rintro e wZ ⟨v, rfl, hown, hq⟩
  rw [metaG_done] at hown
  obtain ⟨va, vc, rfl⟩ := hown.slice
  have hown := Lib.hid hown
  clear hD he
  go_wp2
  go_ret
  subst hB
  exact ⟨_, rfl, hown.out, hC.out.below.trans hq⟩
end Go.Proofs.Ytlaeljkjdfffjaa


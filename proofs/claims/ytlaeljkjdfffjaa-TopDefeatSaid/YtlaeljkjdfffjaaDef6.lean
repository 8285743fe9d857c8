/- law09: little; defeat.Says. -/
import Derived.Test.YtlaeljkjdfffjaaDef4
namespace Go.Proofs.Ytlaeljkjdfffjaa
open Go.RowKit

theorem cvalidP_at {w : World} {v : Value} {l : List Ins} (b : Bool) (hb : validB l = b) (hl : InsRow w w.heap.size v l) : Calls Try.prog 102 #[v] w fun e w' => e = .returned (.bool b) ∧ Below w.heap.size w w' := codeValidP_at v l w hl b hb
theorem run_ok9 {w : World} {v : Value} {l : List Ins} {t : Tr} {S : ByteArray} (k : Nat) (K : Int) (hKk : K = k) (hK : k ≤ 10000000) (hl : InsRow w w.heap.size v l) (hv : validB l = true) (ht : t.size ≤ 2000000) (hS : TS t = S) (y : ByteArray) (m : Nat) (er : Int) (hr : (goF l k 0 (startS t)).run = (y, m, er)) :
    Calls Try.prog 91 #[v, .string S, .int .i64 K] w fun e w' => e = .returned (.tuple #[.string y, .int .i64 m, .int .i64 er]) ∧ Below w.heap.size w w' := by
  subst hKk
  rw [← hS]
  exact run_ok v l t ht k hK w hl hv y m er hr
/-- What Says hands back, of valid programs. -/
def saysB : Res → Bool × Nat × Int
  | .done s n => (decide (getR s.regs 0 ≠ .nil), n, 0)
  | .fuel _ _ => (false, 0, 7)
  | .big => (false, 0, 3)
set_option maxRecDepth 20000 in
set_option maxHeartbeats 4000000 in
theorem says_ok {w : World} (vd ve : Value) (d e : List Ins) (fuel : Nat) (hhD : InsRow w w.heap.size vd d) (hhE : InsRow w w.heap.size ve e) (hvd : validB d = true) (hve : validB e = true) (hf : fuel ≤ 10000000) (hz : codeN e ≤ 2000000) (b : Bool) (k : Nat) (er : Int) (hr : saysB (goF d fuel 0 (startS (codeT e))) = (b, k, er)) :
    Calls Try.prog 57 #[vd, ve, .int .i64 fuel] w fun e w' => e = .returned (.tuple #[.bool b, .int .i64 k, .int .i64 er]) ∧ Below w.heap.size w w' := by
  obtain ⟨da, dc, rfl⟩ := hhD.len
  obtain ⟨ea, ec, rfl⟩ := hhE.len
  obtain ⟨dn, hdn⟩ : ∃ n, d.length = n := ⟨_, rfl⟩
  obtain ⟨en, hen⟩ : ∃ n, e.length = n := ⟨_, rfl⟩
  rw [hdn] at hhD ⊢
  rw [hen] at hhE ⊢
  have hD := Lib.hid hhD
  have hE := Lib.hid hhE
  have VD := Lib.hid hvd
  have VE := Lib.hid hve
  clear hhD hhE hdn hen hvd hve
  have HZ := Lib.hid hz
  have hfI : (fuel : Int) ≤ 10000000 := by omega
  have hfI0 : (0 : Int) ≤ fuel := by omega
  have HF := Lib.hid hf
  have HS := Lib.hid (codeOf_TS (validB_all VE.out)).symm
  have HCS := Lib.hid (show (codeT e).size ≤ 2000000 by rw [codeT_size VE.out]; exact hz)
  obtain ⟨S, hS⟩ : ∃ S, codeOf e = S := ⟨_, rfl⟩
  have kc := Lib.hid (fun v w hl => code_fine v e w hl VE.out hz)
  rw [hS] at kc HS
  clear hz hf hS
  cases hg : goF d fuel 0 (startS (codeT e)) with
  | fuel s m =>
    rw [hg] at hr
    injection hr with h1 h2
    injection h2 with h2 h3
    subst h1; subst h2; subst h3
    have ch := Lib.hid (Below.refl w.heap.size w)
    have HG := Lib.hid hg
    clear hg
    go_enter Try.func57, Try.ntmps57
    go_wp2_with fail
    refine (cvalidP_at true VD.out hD.out).mono ?_
    rintro e w1 ⟨rfl, hq⟩
    have hD := Lib.hid ((hD.out.below hq).mono hq.size)
    have hE := Lib.hid ((hE.out.below hq).mono hq.size)
    have ch := Lib.hid (ch.out.trans (hq.mono ch.out.size))
    clear hq
    go_wp2_with fail
    refine (cvalidP_at true VE.out hE.out).mono ?_
    rintro e w2 ⟨rfl, hq⟩
    have hD := Lib.hid ((hD.out.below hq).mono hq.size)
    have hE := Lib.hid ((hE.out.below hq).mono hq.size)
    have ch := Lib.hid (ch.out.trans (hq.mono ch.out.size))
    clear hq
    go_wp2_with fail
    refine (kc.out _ _ hE.out).mono ?_
    rintro e w3 ⟨rfl, hq⟩
    have hD := Lib.hid ((hD.out.below hq).mono hq.size)
    have hE := Lib.hid ((hE.out.below hq).mono hq.size)
    have ch := Lib.hid (ch.out.trans (hq.mono ch.out.size))
    clear hq
    go_wp2_with fail
    refine (run_ok9 fuel _ rfl HF.out hD.out VD.out HCS.out HS.out ⟨#[]⟩ 0 7 (by rw [HG.out]; exact rfl)).mono ?_
    rintro e w4 ⟨rfl, hq⟩
    have hD := Lib.hid ((hD.out.below hq).mono hq.size)
    have hE := Lib.hid ((hE.out.below hq).mono hq.size)
    have ch := Lib.hid (ch.out.trans (hq.mono ch.out.size))
    clear hq
    go_wp2
    refine bodyPost_ret (v := .tuple #[.bool false, .int .i64 0, .int .i64 7]) (by simp [results, Try.results57, go_sem]) rfl ?_
    first | exact ⟨rfl, ch.out⟩ | exact ⟨trivial, ch.out⟩
  | big =>
    rw [hg] at hr
    injection hr with h1 h2
    injection h2 with h2 h3
    subst h1; subst h2; subst h3
    have ch := Lib.hid (Below.refl w.heap.size w)
    have HG := Lib.hid hg
    clear hg
    go_enter Try.func57, Try.ntmps57
    go_wp2_with fail
    refine (cvalidP_at true VD.out hD.out).mono ?_
    rintro e w1 ⟨rfl, hq⟩
    have hD := Lib.hid ((hD.out.below hq).mono hq.size)
    have hE := Lib.hid ((hE.out.below hq).mono hq.size)
    have ch := Lib.hid (ch.out.trans (hq.mono ch.out.size))
    clear hq
    go_wp2_with fail
    refine (cvalidP_at true VE.out hE.out).mono ?_
    rintro e w2 ⟨rfl, hq⟩
    have hD := Lib.hid ((hD.out.below hq).mono hq.size)
    have hE := Lib.hid ((hE.out.below hq).mono hq.size)
    have ch := Lib.hid (ch.out.trans (hq.mono ch.out.size))
    clear hq
    go_wp2_with fail
    refine (kc.out _ _ hE.out).mono ?_
    rintro e w3 ⟨rfl, hq⟩
    have hD := Lib.hid ((hD.out.below hq).mono hq.size)
    have hE := Lib.hid ((hE.out.below hq).mono hq.size)
    have ch := Lib.hid (ch.out.trans (hq.mono ch.out.size))
    clear hq
    go_wp2_with fail
    refine (run_ok9 fuel _ rfl HF.out hD.out VD.out HCS.out HS.out ⟨#[]⟩ 0 3 (by rw [HG.out]; exact rfl)).mono ?_
    rintro e w4 ⟨rfl, hq⟩
    have hD := Lib.hid ((hD.out.below hq).mono hq.size)
    have hE := Lib.hid ((hE.out.below hq).mono hq.size)
    have ch := Lib.hid (ch.out.trans (hq.mono ch.out.size))
    clear hq
    go_wp2
    refine bodyPost_ret (v := .tuple #[.bool false, .int .i64 0, .int .i64 3]) (by simp [results, Try.results57, go_sem]) rfl ?_
    first | exact ⟨rfl, ch.out⟩ | exact ⟨trivial, ch.out⟩
  | done s m =>
    have hm0 := done_le hg
    have hmI : (m : Int) ≤ 10000000 := by omega
    cases ht : getR s.regs 0 with
    | nil =>
      have hr2 : (false, m, (0 : Int)) = (b, k, er) := by rw [← hr, hg]; simp [saysB, ht]
      injection hr2 with h1 h2
      injection h2 with h2 h3
      subst h1; subst h2; subst h3
      have ch := Lib.hid (Below.refl w.heap.size w)
      have HG := Lib.hid hg
      have HT := Lib.hid ht
      have hzz := TS_nil0
      clear hg ht hr hm0
      obtain ⟨y, hy⟩ : ∃ y, TS (.nil) = y := ⟨_, rfl⟩
      have HY := Lib.hid hy
      rw [hy] at hzz
      clear hy
      go_enter Try.func57, Try.ntmps57
      go_wp2_with fail
      refine (cvalidP_at true VD.out hD.out).mono ?_
      rintro e w1 ⟨rfl, hq⟩
      have hD := Lib.hid ((hD.out.below hq).mono hq.size)
      have hE := Lib.hid ((hE.out.below hq).mono hq.size)
      have ch := Lib.hid (ch.out.trans (hq.mono ch.out.size))
      clear hq
      go_wp2_with fail
      refine (cvalidP_at true VE.out hE.out).mono ?_
      rintro e w2 ⟨rfl, hq⟩
      have hD := Lib.hid ((hD.out.below hq).mono hq.size)
      have hE := Lib.hid ((hE.out.below hq).mono hq.size)
      have ch := Lib.hid (ch.out.trans (hq.mono ch.out.size))
      clear hq
      go_wp2_with fail
      refine (kc.out _ _ hE.out).mono ?_
      rintro e w3 ⟨rfl, hq⟩
      have hD := Lib.hid ((hD.out.below hq).mono hq.size)
      have hE := Lib.hid ((hE.out.below hq).mono hq.size)
      have ch := Lib.hid (ch.out.trans (hq.mono ch.out.size))
      clear hq
      go_wp2_with fail
      refine (run_ok9 fuel _ rfl HF.out hD.out VD.out HCS.out HS.out y m 0 (by rw [HG.out]; show (TS (getR s.regs 0), m, (0 : Int)) = _; rw [HT.out, HY.out])).mono ?_
      rintro e w4 ⟨rfl, hq⟩
      have hD := Lib.hid ((hD.out.below hq).mono hq.size)
      have hE := Lib.hid ((hE.out.below hq).mono hq.size)
      have ch := Lib.hid (ch.out.trans (hq.mono ch.out.size))
      clear hq
      go_wp2
      refine bodyPost_ret (v := .tuple #[.bool false, .int .i64 m, .int .i64 0]) (by simp [results, Try.results57, go_sem]) rfl ?_
      first | exact ⟨rfl, ch.out⟩ | exact ⟨trivial, ch.out⟩
    | pair a c =>
      have hr2 : (true, m, (0 : Int)) = (b, k, er) := by rw [← hr, hg]; simp [saysB, ht]
      injection hr2 with h1 h2
      injection h2 with h2 h3
      subst h1; subst h2; subst h3
      have ch := Lib.hid (Below.refl w.heap.size w)
      have HG := Lib.hid hg
      have HT := Lib.hid ht
      have hzz := TS_pair0 a c
      clear hg ht hr hm0
      obtain ⟨y, hy⟩ : ∃ y, TS (.pair a c) = y := ⟨_, rfl⟩
      have HY := Lib.hid hy
      rw [hy] at hzz
      clear hy
      go_enter Try.func57, Try.ntmps57
      go_wp2_with fail
      refine (cvalidP_at true VD.out hD.out).mono ?_
      rintro e w1 ⟨rfl, hq⟩
      have hD := Lib.hid ((hD.out.below hq).mono hq.size)
      have hE := Lib.hid ((hE.out.below hq).mono hq.size)
      have ch := Lib.hid (ch.out.trans (hq.mono ch.out.size))
      clear hq
      go_wp2_with fail
      refine (cvalidP_at true VE.out hE.out).mono ?_
      rintro e w2 ⟨rfl, hq⟩
      have hD := Lib.hid ((hD.out.below hq).mono hq.size)
      have hE := Lib.hid ((hE.out.below hq).mono hq.size)
      have ch := Lib.hid (ch.out.trans (hq.mono ch.out.size))
      clear hq
      go_wp2_with fail
      refine (kc.out _ _ hE.out).mono ?_
      rintro e w3 ⟨rfl, hq⟩
      have hD := Lib.hid ((hD.out.below hq).mono hq.size)
      have hE := Lib.hid ((hE.out.below hq).mono hq.size)
      have ch := Lib.hid (ch.out.trans (hq.mono ch.out.size))
      clear hq
      go_wp2_with fail
      refine (run_ok9 fuel _ rfl HF.out hD.out VD.out HCS.out HS.out y m 0 (by rw [HG.out]; show (TS (getR s.regs 0), m, (0 : Int)) = _; rw [HT.out, HY.out])).mono ?_
      rintro e w4 ⟨rfl, hq⟩
      have hD := Lib.hid ((hD.out.below hq).mono hq.size)
      have hE := Lib.hid ((hE.out.below hq).mono hq.size)
      have ch := Lib.hid (ch.out.trans (hq.mono ch.out.size))
      clear hq
      go_wp2
      refine bodyPost_ret (v := .tuple #[.bool true, .int .i64 m, .int .i64 0]) (by simp [results, Try.results57, go_sem]) rfl ?_
      first | exact ⟨rfl, ch.out⟩ | exact ⟨trivial, ch.out⟩
end Go.Proofs.Ytlaeljkjdfffjaa


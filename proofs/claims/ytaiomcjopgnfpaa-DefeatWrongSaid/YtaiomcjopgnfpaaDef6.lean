/- law09: little; defeat.Says. -/
import Derived.Test.YtaiomcjopgnfpaaDef4
namespace Go.Proofs.Ytaiomcjopgnfpaa
open Go.RowKit

def LittleOut (w : World) (x : ByteArray) (ls : List (List Ins)) (e : Ending) (w' : World) : Prop := ∃ b, e = .returned (.bool b) ∧ Hid (b = true → (∀ l ∈ ls, validB l = true) ∧ x.size ≤ 20000 ∧ isTree x = true) ∧ Below w.heap.size w w'
set_option maxHeartbeats 4000000 in
theorem little_any (x : ByteArray) (hxs : x.size ≤ 140737488355328) (v : Value) (ls : List (List Ins)) (hls : ls.length ≤ 10) (w : World) (hl : ProgsRow w w.heap.size v ls) :
    Calls Try.prog 64 #[.string x, v] w (LittleOut w x ls) := by
  obtain ⟨ao, cap, rfl⟩ := hl.len
  obtain ⟨n, hn⟩ : ∃ n, ls.length = n := ⟨_, rfl⟩
  rw [hn] at hl hls ⊢
  have HN := Lib.hid hn
  have hL := Lib.hid hl
  have hxI : (x.size : Int) ≤ 140737488355328 := by omega
  have HXS := Lib.hid hxs
  have ch := Lib.hid (Below.refl w.heap.size w)
  clear hl hn hxs
  go_enter Try.func64, Try.ntmps64
  go_wp2
  go_loopg [5] n (fun g i wr => ∃ (k : Nat), k ≤ n ∧ g = n - k ∧ i = .int .i64 k ∧ Hid (∀ l ∈ ls.take k, validB l = true) ∧ Below w.heap.size w wr)
  case atStart => exact ⟨0, by omega, rfl, rfl, Lib.hid (fun l h => by simp at h), Below.refl _ _⟩
  case round =>
    obtain ⟨k, hk, hg, rfl, hVk, hq⟩ := hrel
    have HG := Lib.hid hg
    have hL := Lib.hid (hL.out.step hq)
    have ch := Lib.hid (ch.out.trans (hq.mono ch.out.size))
    clear hg hq
    by_cases hlt : k < n
    · obtain ⟨l, hlk⟩ : ∃ l, ls[k]? = some l := ⟨_, List.getElem?_eq_getElem (by rw [HN.out]; exact hlt)⟩
      obtain ⟨g, off, u, rfl, hg, c0, hu⟩ := hL.out.get hlk
      obtain ⟨ua, uc, rfl⟩ := hu.len
      have HLK := Lib.hid hlk
      have hU := Lib.hid hu
      obtain ⟨bv, hbv⟩ : ∃ b, validB l = b := ⟨_, rfl⟩
      have HV := Lib.hid hbv
      clear hu hlk hbv
      go_wp2_with fail
      have hM0 := ProgsRow.lit (w := wr) [.slice ua l.length uc] [l] rfl (by simp) (fun j u l hu hl => match j, u, l, hu, hl with | 0, _, _, hu, hl => by cases hu; cases hl; exact hU.out)
      obtain ⟨w1, hW⟩ : ∃ B, wr.alloc (.cells #[.slice ua l.length uc] 25) = B := ⟨_, rfl⟩
      rw [hW]
      have hq : Below wr.heap.size wr w1 := by rw [← hW]; exact (Below.refl _ _).alloc (Nat.le_refl _) _
      have hM := Lib.hid (show ProgsRow w1 w1.heap.size (.slice (some ⟨wr.heap.size, 0, none⟩) 1 1) [l] by rw [← hW]; exact hM0)
      clear hW hM0
      have hU := Lib.hid ((hU.out.below hq).mono hq.size)
      have hL := Lib.hid ((hL.out.below hq).mono hq.size)
      have ch := Lib.hid (ch.out.trans (hq.mono ch.out.size))
      clear hq
      refine (small_any _ _ _ (by simp) _ hM.out).mono ?_
      rintro e w2 ⟨b1, rfl, hq⟩
      have hU := Lib.hid ((hU.out.below hq).mono hq.size)
      have hL := Lib.hid ((hL.out.below hq).mono hq.size)
      have hM := Lib.hid ((hM.out.below hq).mono hq.size)
      have ch := Lib.hid (ch.out.trans (hq.mono ch.out.size))
      clear hq
      clear c0
      clear hM hU
      cases b1 with
      | false =>
        go_wp2
        go_ret
        exact ⟨false, rfl, Lib.hid (fun h => by cases h), ch.out⟩
      | true =>
        obtain ⟨g2, off2, u2, hgo2, hg2, c0, hu⟩ := hL.out.get HLK.out
        injection hgo2 with hgo2
        injection hgo2 with hgo3 hgo4
        subst hgo3
        have hoo : off = off2 := by omega
        subst hoo
        obtain ⟨ua2, uc2, rfl⟩ := hu.len
        have kv := Lib.hid (cvalid_at bv HV.out hu)
        clear hu hgo4
        go_wp2_with fail
        refine kv.out.mono ?_
        rintro e wz ⟨rfl, hq⟩
        have ch := Lib.hid (ch.out.trans (hq.mono ch.out.size))
        clear hq kv
        cases bv with
        | false =>
          go_wp2
          go_ret
          exact ⟨false, rfl, Lib.hid (fun h => by cases h), ch.out⟩
        | true =>
          have HVS := Lib.hid (show ∀ l ∈ ls.take (k + 1), validB l = true by
            rw [take_snoc' _ _ _ HLK.out]
            intro l' hl'
            rcases List.mem_append.1 hl' with h | h
            · exact hVk.out l' h
            · rw [List.mem_singleton.1 h]; exact HV.out)
          clear hVk
          go_wp2
          go_roundg (n - (k + 1))
          case measure => rw [HG.out]; omega
          case rel => exact ⟨k + 1, by omega, rfl, by go_num, HVS, ch.out⟩
    · obtain rfl : k = n := by omega
      have HVA := Lib.hid (show ∀ l ∈ ls, validB l = true by have h := hVk.out; rwa [List.take_of_length_le (by rw [HN.out]; exact Nat.le_refl _)] at h)
      obtain ⟨bx, hbx⟩ : ∃ b, isTree x = b := ⟨_, rfl⟩
      have HX := Lib.hid hbx
      clear hbx hVk
      by_cases hlen : (x.size : Int) ≤ 20000
      · go_wp2_with fail
        refine (tvalid_at x HXS.out bx HX.out _).mono ?_
        rintro e wz ⟨rfl, hq⟩
        have ch := Lib.hid (ch.out.trans (hq.mono ch.out.size))
        clear hq
        go_wp2
        go_ret
        exact ⟨bx, rfl, Lib.hid (fun h => ⟨HVA.out, by omega, by rw [HX.out]; exact h⟩), ch.out⟩
      · go_wp2
        go_ret
        exact ⟨false, rfl, Lib.hid (fun h => by cases h), ch.out⟩
theorem cvalidP_at {w : World} {v : Value} {l : List Ins} (b : Bool) (hb : validB l = b) (hl : InsRow w w.heap.size v l) : Calls Try.prog 92 #[v] w fun e w' => e = .returned (.bool b) ∧ Below w.heap.size w w' := codeValidP_at v l w hl b hb
theorem run_ok9 {w : World} {v : Value} {l : List Ins} {t : Tr} {S : ByteArray} (k : Nat) (K : Int) (hKk : K = k) (hK : k ≤ 10000000) (hl : InsRow w w.heap.size v l) (hv : validB l = true) (ht : t.size ≤ 2000000) (hS : TS t = S) (y : ByteArray) (m : Nat) (er : Int) (hr : (goF l k 0 (startS t)).run = (y, m, er)) :
    Calls Try.prog 32 #[v, .string S, .int .i64 K] w fun e w' => e = .returned (.tuple #[.string y, .int .i64 m, .int .i64 er]) ∧ Below w.heap.size w w' := by
  subst hKk
  rw [← hS]
  exact run_ok v l t ht k hK w hl hv y m er hr
/-- What Says hands back, of valid programs. -/
def saysB : Res → Bool × Nat × Int
  | .done s n => (decide (getR s.regs 0 ≠ .nil), n, 0)
  | .fuel _ _ => (false, 0, 7)
  | .big => (false, 0, 3)
set_option maxRecDepth 20000 in
set_option maxHeartbeats 4000000 in
theorem says_form {w : World} (vd ve : Value) (d e : List Ins) (fuel : Int) (hhD : InsRow w w.heap.size vd d) (hhE : InsRow w w.heap.size ve e) (hv : ¬ (validB d = true ∧ validB e = true)) :
    Calls Try.prog 67 #[vd, ve, .int .i64 fuel] w fun e w' => e = .returned (.tuple #[.bool false, .int .i64 0, .int .i64 1]) ∧ Below w.heap.size w w' := by
  obtain ⟨da, dc, rfl⟩ := hhD.len
  obtain ⟨ea, ec, rfl⟩ := hhE.len
  obtain ⟨dn, hdn⟩ : ∃ n, d.length = n := ⟨_, rfl⟩
  obtain ⟨en, hen⟩ : ∃ n, e.length = n := ⟨_, rfl⟩
  rw [hdn] at hhD ⊢
  rw [hen] at hhE ⊢
  have hD := Lib.hid hhD
  have hE := Lib.hid hhE
  obtain ⟨bd, hbd⟩ : ∃ b, validB d = b := ⟨_, rfl⟩
  have VD := Lib.hid hbd
  obtain ⟨be, hbe⟩ : ∃ b, validB e = b := ⟨_, rfl⟩
  have VE := Lib.hid hbe
  have HV := Lib.hid (show ¬ (bd = true ∧ be = true) by rw [← hbd, ← hbe]; exact hv)
  clear hhD hhE hdn hen hbd hbe hv
  have ch := Lib.hid (Below.refl w.heap.size w)
  go_enter Try.func67, Try.ntmps67
  go_wp2_with fail
  refine (cvalidP_at bd VD.out hD.out).mono ?_
  rintro e w1 ⟨rfl, hq⟩
  have hD := Lib.hid ((hD.out.below hq).mono hq.size)
  have hE := Lib.hid ((hE.out.below hq).mono hq.size)
  have ch := Lib.hid (ch.out.trans (hq.mono ch.out.size))
  clear hq
  cases bd with
  | false =>
    go_wp2
    refine bodyPost_ret (v := .tuple #[.bool false, .int .i64 0, .int .i64 1]) (by simp [results, Try.results67, go_sem]) rfl ?_
    first | exact ⟨rfl, ch.out⟩ | exact ⟨trivial, ch.out⟩
  | true =>
    go_wp2_with fail
    refine (cvalidP_at be VE.out hE.out).mono ?_
    rintro e w2 ⟨rfl, hq⟩
    have hD := Lib.hid ((hD.out.below hq).mono hq.size)
    have hE := Lib.hid ((hE.out.below hq).mono hq.size)
    have ch := Lib.hid (ch.out.trans (hq.mono ch.out.size))
    clear hq
    cases be with
    | false =>
      go_wp2
      refine bodyPost_ret (v := .tuple #[.bool false, .int .i64 0, .int .i64 1]) (by simp [results, Try.results67, go_sem]) rfl ?_
      first | exact ⟨rfl, ch.out⟩ | exact ⟨trivial, ch.out⟩
    | true => exact False.elim (by have h := HV.out; simp at h)
set_option maxRecDepth 20000 in
set_option maxHeartbeats 4000000 in
theorem says_arg {w : World} (vd ve : Value) (d e : List Ins) (fuel : Int) (hhD : InsRow w w.heap.size vd d) (hhE : InsRow w w.heap.size ve e) (hvd : validB d = true) (hve : validB e = true) (hf : fuel < 0 ∨ 10000000 < fuel) :
    Calls Try.prog 67 #[vd, ve, .int .i64 fuel] w fun e w' => e = .returned (.tuple #[.bool false, .int .i64 0, .int .i64 2]) ∧ Below w.heap.size w w' := by
  obtain ⟨da, dc, rfl⟩ := hhD.len
  obtain ⟨ea, ec, rfl⟩ := hhE.len
  obtain ⟨dn, hdn⟩ : ∃ n, d.length = n := ⟨_, rfl⟩
  obtain ⟨en, hen⟩ : ∃ n, e.length = n := ⟨_, rfl⟩
  rw [hdn] at hhD ⊢
  rw [hen] at hhE ⊢
  have hD := Lib.hid hhD
  have hE := Lib.hid hhE
  have VD := Lib.hid hvd
  have VE := Lib.hid hve
  clear hhD hhE hdn hen hvd hve
  have ch := Lib.hid (Below.refl w.heap.size w)
  go_enter Try.func67, Try.ntmps67
  go_wp2_with fail
  refine (cvalidP_at true VD.out hD.out).mono ?_
  rintro e w1 ⟨rfl, hq⟩
  have hD := Lib.hid ((hD.out.below hq).mono hq.size)
  have hE := Lib.hid ((hE.out.below hq).mono hq.size)
  have ch := Lib.hid (ch.out.trans (hq.mono ch.out.size))
  clear hq
  go_wp2_with fail
  refine (cvalidP_at true VE.out hE.out).mono ?_
  rintro e w2 ⟨rfl, hq⟩
  have hD := Lib.hid ((hD.out.below hq).mono hq.size)
  have hE := Lib.hid ((hE.out.below hq).mono hq.size)
  have ch := Lib.hid (ch.out.trans (hq.mono ch.out.size))
  clear hq
  rcases hf with hf | hf
  · skip
    go_wp2
    refine bodyPost_ret (v := .tuple #[.bool false, .int .i64 0, .int .i64 2]) (by simp [results, Try.results67, go_sem]) rfl ?_
    first | exact ⟨rfl, ch.out⟩ | exact ⟨trivial, ch.out⟩
  · have hf0 : ¬ fuel < 0 := by omega
    go_wp2
    refine bodyPost_ret (v := .tuple #[.bool false, .int .i64 0, .int .i64 2]) (by simp [results, Try.results67, go_sem]) rfl ?_
    first | exact ⟨rfl, ch.out⟩ | exact ⟨trivial, ch.out⟩
set_option maxRecDepth 20000 in
set_option maxHeartbeats 4000000 in
theorem says_size {w : World} (vd ve : Value) (d e : List Ins) (fuel : Int) (hhD : InsRow w w.heap.size vd d) (hhE : InsRow w w.heap.size ve e) (hvd : validB d = true) (hve : validB e = true) (hf : 0 ≤ fuel ∧ fuel ≤ 10000000) (hz : ¬ codeN e ≤ 2000000) :
    Calls Try.prog 67 #[vd, ve, .int .i64 fuel] w fun e w' => e = .returned (.tuple #[.bool false, .int .i64 0, .int .i64 3]) ∧ Below w.heap.size w w' := by
  obtain ⟨da, dc, rfl⟩ := hhD.len
  obtain ⟨ea, ec, rfl⟩ := hhE.len
  obtain ⟨dn, hdn⟩ : ∃ n, d.length = n := ⟨_, rfl⟩
  obtain ⟨en, hen⟩ : ∃ n, e.length = n := ⟨_, rfl⟩
  rw [hdn] at hhD ⊢
  rw [hen] at hhE ⊢
  have hD := Lib.hid hhD
  have hE := Lib.hid hhE
  have VD := Lib.hid hvd
  have VE := Lib.hid hve
  clear hhD hhE hdn hen hvd hve
  have ch := Lib.hid (Below.refl w.heap.size w)
  have HZ := Lib.hid hz
  clear hz
  go_enter Try.func67, Try.ntmps67
  go_wp2_with fail
  refine (cvalidP_at true VD.out hD.out).mono ?_
  rintro e w1 ⟨rfl, hq⟩
  have hD := Lib.hid ((hD.out.below hq).mono hq.size)
  have hE := Lib.hid ((hE.out.below hq).mono hq.size)
  have ch := Lib.hid (ch.out.trans (hq.mono ch.out.size))
  clear hq
  go_wp2_with fail
  refine (cvalidP_at true VE.out hE.out).mono ?_
  rintro e w2 ⟨rfl, hq⟩
  have hD := Lib.hid ((hD.out.below hq).mono hq.size)
  have hE := Lib.hid ((hE.out.below hq).mono hq.size)
  have ch := Lib.hid (ch.out.trans (hq.mono ch.out.size))
  clear hq
  go_wp2_with fail
  refine (code_large _ _ _ hE.out VE.out HZ.out).mono ?_
  rintro e w3 ⟨rfl, hq⟩
  have hD := Lib.hid ((hD.out.below hq).mono hq.size)
  have hE := Lib.hid ((hE.out.below hq).mono hq.size)
  have ch := Lib.hid (ch.out.trans (hq.mono ch.out.size))
  clear hq
  go_wp2
  refine bodyPost_ret (v := .tuple #[.bool false, .int .i64 0, .int .i64 3]) (by simp [results, Try.results67, go_sem]) rfl ?_
  first | exact ⟨rfl, ch.out⟩ | exact ⟨trivial, ch.out⟩
set_option maxRecDepth 20000 in
set_option maxHeartbeats 4000000 in
theorem says_ok {w : World} (vd ve : Value) (d e : List Ins) (fuel : Nat) (hhD : InsRow w w.heap.size vd d) (hhE : InsRow w w.heap.size ve e) (hvd : validB d = true) (hve : validB e = true) (hf : fuel ≤ 10000000) (hz : codeN e ≤ 2000000) (b : Bool) (k : Nat) (er : Int) (hr : saysB (goF d fuel 0 (startS (codeT e))) = (b, k, er)) :
    Calls Try.prog 67 #[vd, ve, .int .i64 fuel] w fun e w' => e = .returned (.tuple #[.bool b, .int .i64 k, .int .i64 er]) ∧ Below w.heap.size w w' := by
  obtain ⟨da, dc, rfl⟩ := hhD.len
  obtain ⟨ea, ec, rfl⟩ := hhE.len
  obtain ⟨dn, hdn⟩ : ∃ n, d.length = n := ⟨_, rfl⟩
  obtain ⟨en, hen⟩ : ∃ n, e.length = n := ⟨_, rfl⟩
  rw [hdn] at hhD ⊢
  rw [hen] at hhE ⊢
  have hD := Lib.hid hhD
  have hE := Lib.hid hhE
  have VD := Lib.hid hvd
  have VE := Lib.hid hve
  clear hhD hhE hdn hen hvd hve
  have HZ := Lib.hid hz
  have hfI : (fuel : Int) ≤ 10000000 := by omega
  have hfI0 : (0 : Int) ≤ fuel := by omega
  have HF := Lib.hid hf
  have HS := Lib.hid (codeOf_TS (validB_all VE.out)).symm
  have HCS := Lib.hid (show (codeT e).size ≤ 2000000 by rw [codeT_size VE.out]; exact hz)
  obtain ⟨S, hS⟩ : ∃ S, codeOf e = S := ⟨_, rfl⟩
  have kc := Lib.hid (fun v w hl => code_fine v e w hl VE.out hz)
  rw [hS] at kc HS
  clear hz hf hS
  cases hg : goF d fuel 0 (startS (codeT e)) with
  | fuel s m =>
    rw [hg] at hr
    injection hr with h1 h2
    injection h2 with h2 h3
    subst h1; subst h2; subst h3
    have ch := Lib.hid (Below.refl w.heap.size w)
    have HG := Lib.hid hg
    clear hg
    go_enter Try.func67, Try.ntmps67
    go_wp2_with fail
    refine (cvalidP_at true VD.out hD.out).mono ?_
    rintro e w1 ⟨rfl, hq⟩
    have hD := Lib.hid ((hD.out.below hq).mono hq.size)
    have hE := Lib.hid ((hE.out.below hq).mono hq.size)
    have ch := Lib.hid (ch.out.trans (hq.mono ch.out.size))
    clear hq
    go_wp2_with fail
    refine (cvalidP_at true VE.out hE.out).mono ?_
    rintro e w2 ⟨rfl, hq⟩
    have hD := Lib.hid ((hD.out.below hq).mono hq.size)
    have hE := Lib.hid ((hE.out.below hq).mono hq.size)
    have ch := Lib.hid (ch.out.trans (hq.mono ch.out.size))
    clear hq
    go_wp2_with fail
    refine (kc.out _ _ hE.out).mono ?_
    rintro e w3 ⟨rfl, hq⟩
    have hD := Lib.hid ((hD.out.below hq).mono hq.size)
    have hE := Lib.hid ((hE.out.below hq).mono hq.size)
    have ch := Lib.hid (ch.out.trans (hq.mono ch.out.size))
    clear hq
    go_wp2_with fail
    refine (run_ok9 fuel _ rfl HF.out hD.out VD.out HCS.out HS.out ⟨#[]⟩ 0 7 (by rw [HG.out]; exact rfl)).mono ?_
    rintro e w4 ⟨rfl, hq⟩
    have hD := Lib.hid ((hD.out.below hq).mono hq.size)
    have hE := Lib.hid ((hE.out.below hq).mono hq.size)
    have ch := Lib.hid (ch.out.trans (hq.mono ch.out.size))
    clear hq
    go_wp2
    refine bodyPost_ret (v := .tuple #[.bool false, .int .i64 0, .int .i64 7]) (by simp [results, Try.results67, go_sem]) rfl ?_
    first | exact ⟨rfl, ch.out⟩ | exact ⟨trivial, ch.out⟩
  | big =>
    rw [hg] at hr
    injection hr with h1 h2
    injection h2 with h2 h3
    subst h1; subst h2; subst h3
    have ch := Lib.hid (Below.refl w.heap.size w)
    have HG := Lib.hid hg
    clear hg
    go_enter Try.func67, Try.ntmps67
    go_wp2_with fail
    refine (cvalidP_at true VD.out hD.out).mono ?_
    rintro e w1 ⟨rfl, hq⟩
    have hD := Lib.hid ((hD.out.below hq).mono hq.size)
    have hE := Lib.hid ((hE.out.below hq).mono hq.size)
    have ch := Lib.hid (ch.out.trans (hq.mono ch.out.size))
    clear hq
    go_wp2_with fail
    refine (cvalidP_at true VE.out hE.out).mono ?_
    rintro e w2 ⟨rfl, hq⟩
    have hD := Lib.hid ((hD.out.below hq).mono hq.size)
    have hE := Lib.hid ((hE.out.below hq).mono hq.size)
    have ch := Lib.hid (ch.out.trans (hq.mono ch.out.size))
    clear hq
    go_wp2_with fail
    refine (kc.out _ _ hE.out).mono ?_
    rintro e w3 ⟨rfl, hq⟩
    have hD := Lib.hid ((hD.out.below hq).mono hq.size)
    have hE := Lib.hid ((hE.out.below hq).mono hq.size)
    have ch := Lib.hid (ch.out.trans (hq.mono ch.out.size))
    clear hq
    go_wp2_with fail
    refine (run_ok9 fuel _ rfl HF.out hD.out VD.out HCS.out HS.out ⟨#[]⟩ 0 3 (by rw [HG.out]; exact rfl)).mono ?_
    rintro e w4 ⟨rfl, hq⟩
    have hD := Lib.hid ((hD.out.below hq).mono hq.size)
    have hE := Lib.hid ((hE.out.below hq).mono hq.size)
    have ch := Lib.hid (ch.out.trans (hq.mono ch.out.size))
    clear hq
    go_wp2
    refine bodyPost_ret (v := .tuple #[.bool false, .int .i64 0, .int .i64 3]) (by simp [results, Try.results67, go_sem]) rfl ?_
    first | exact ⟨rfl, ch.out⟩ | exact ⟨trivial, ch.out⟩
  | done s m =>
    have hm0 := done_le hg
    have hmI : (m : Int) ≤ 10000000 := by omega
    cases ht : getR s.regs 0 with
    | nil =>
      have hr2 : (false, m, (0 : Int)) = (b, k, er) := by rw [← hr, hg]; simp [saysB, ht]
      injection hr2 with h1 h2
      injection h2 with h2 h3
      subst h1; subst h2; subst h3
      have ch := Lib.hid (Below.refl w.heap.size w)
      have HG := Lib.hid hg
      have HT := Lib.hid ht
      have hzz := TS_nil0
      clear hg ht hr hm0
      obtain ⟨y, hy⟩ : ∃ y, TS (.nil) = y := ⟨_, rfl⟩
      have HY := Lib.hid hy
      rw [hy] at hzz
      clear hy
      go_enter Try.func67, Try.ntmps67
      go_wp2_with fail
      refine (cvalidP_at true VD.out hD.out).mono ?_
      rintro e w1 ⟨rfl, hq⟩
      have hD := Lib.hid ((hD.out.below hq).mono hq.size)
      have hE := Lib.hid ((hE.out.below hq).mono hq.size)
      have ch := Lib.hid (ch.out.trans (hq.mono ch.out.size))
      clear hq
      go_wp2_with fail
      refine (cvalidP_at true VE.out hE.out).mono ?_
      rintro e w2 ⟨rfl, hq⟩
      have hD := Lib.hid ((hD.out.below hq).mono hq.size)
      have hE := Lib.hid ((hE.out.below hq).mono hq.size)
      have ch := Lib.hid (ch.out.trans (hq.mono ch.out.size))
      clear hq
      go_wp2_with fail
      refine (kc.out _ _ hE.out).mono ?_
      rintro e w3 ⟨rfl, hq⟩
      have hD := Lib.hid ((hD.out.below hq).mono hq.size)
      have hE := Lib.hid ((hE.out.below hq).mono hq.size)
      have ch := Lib.hid (ch.out.trans (hq.mono ch.out.size))
      clear hq
      go_wp2_with fail
      refine (run_ok9 fuel _ rfl HF.out hD.out VD.out HCS.out HS.out y m 0 (by rw [HG.out]; show (TS (getR s.regs 0), m, (0 : Int)) = _; rw [HT.out, HY.out])).mono ?_
      rintro e w4 ⟨rfl, hq⟩
      have hD := Lib.hid ((hD.out.below hq).mono hq.size)
      have hE := Lib.hid ((hE.out.below hq).mono hq.size)
      have ch := Lib.hid (ch.out.trans (hq.mono ch.out.size))
      clear hq
      go_wp2
      refine bodyPost_ret (v := .tuple #[.bool false, .int .i64 m, .int .i64 0]) (by simp [results, Try.results67, go_sem]) rfl ?_
      first | exact ⟨rfl, ch.out⟩ | exact ⟨trivial, ch.out⟩
    | pair a c =>
      have hr2 : (true, m, (0 : Int)) = (b, k, er) := by rw [← hr, hg]; simp [saysB, ht]
      injection hr2 with h1 h2
      injection h2 with h2 h3
      subst h1; subst h2; subst h3
      have ch := Lib.hid (Below.refl w.heap.size w)
      have HG := Lib.hid hg
      have HT := Lib.hid ht
      have hzz := TS_pair0 a c
      clear hg ht hr hm0
      obtain ⟨y, hy⟩ : ∃ y, TS (.pair a c) = y := ⟨_, rfl⟩
      have HY := Lib.hid hy
      rw [hy] at hzz
      clear hy
      go_enter Try.func67, Try.ntmps67
      go_wp2_with fail
      refine (cvalidP_at true VD.out hD.out).mono ?_
      rintro e w1 ⟨rfl, hq⟩
      have hD := Lib.hid ((hD.out.below hq).mono hq.size)
      have hE := Lib.hid ((hE.out.below hq).mono hq.size)
      have ch := Lib.hid (ch.out.trans (hq.mono ch.out.size))
      clear hq
      go_wp2_with fail
      refine (cvalidP_at true VE.out hE.out).mono ?_
      rintro e w2 ⟨rfl, hq⟩
      have hD := Lib.hid ((hD.out.below hq).mono hq.size)
      have hE := Lib.hid ((hE.out.below hq).mono hq.size)
      have ch := Lib.hid (ch.out.trans (hq.mono ch.out.size))
      clear hq
      go_wp2_with fail
      refine (kc.out _ _ hE.out).mono ?_
      rintro e w3 ⟨rfl, hq⟩
      have hD := Lib.hid ((hD.out.below hq).mono hq.size)
      have hE := Lib.hid ((hE.out.below hq).mono hq.size)
      have ch := Lib.hid (ch.out.trans (hq.mono ch.out.size))
      clear hq
      go_wp2_with fail
      refine (run_ok9 fuel _ rfl HF.out hD.out VD.out HCS.out HS.out y m 0 (by rw [HG.out]; show (TS (getR s.regs 0), m, (0 : Int)) = _; rw [HT.out, HY.out])).mono ?_
      rintro e w4 ⟨rfl, hq⟩
      have hD := Lib.hid ((hD.out.below hq).mono hq.size)
      have hE := Lib.hid ((hE.out.below hq).mono hq.size)
      have ch := Lib.hid (ch.out.trans (hq.mono ch.out.size))
      clear hq
      go_wp2
      refine bodyPost_ret (v := .tuple #[.bool true, .int .i64 m, .int .i64 0]) (by simp [results, Try.results67, go_sem]) rfl ?_
      first | exact ⟨rfl, ch.out⟩ | exact ⟨trivial, ch.out⟩
end Go.Proofs.Ytaiomcjopgnfpaa


/- ref02's Text, at small numbers. -/
import Derived.Test.YtaiomcjopgnfpaaTextO4
namespace Go.Proofs.Ytaiomcjopgnfpaa
open Go.RowKit


def txL : List (List UInt8) := [[109, 111, 118, 101, 32, 49, 32, 48], [109, 111, 118, 101, 32, 50, 32, 48], [109, 111, 118, 101, 32, 48, 32, 49], [99, 111, 110, 115, 32, 48, 32, 50, 32, 48]]
theorem textOf_all (k : Nat) (x : Ins) (t : List UInt8) (hx : (pairL [] [])[k]? = some x) (ht : txL[k]? = some t) (w : World) :
    Calls Try.prog 111 #[.agg #[.int .i64 x.op, .int .i64 x.a, .int .i64 x.b, .int .i64 x.c, .string x.tree]] w fun e w' => e = .returned (.string ⟨t.toArray⟩) ∧ Below w.heap.size w w' := by
  have hp : pairL [] [] = [moveI 1 0, moveI 2 0, moveI 0 1, consI 0 2 0] := by decide
  rw [hp] at hx
  match k, hx, ht with
  | 0, hx, ht => cases hx; cases ht; exact textM10 w
  | 1, hx, ht => cases hx; cases ht; exact textM20 w
  | 2, hx, ht => cases hx; cases ht; exact textM01 w
  | 3, hx, ht => cases hx; cases ht; exact textC w

set_option maxHeartbeats 4000000 in
theorem text_any (v : Value) (l : List Ins) (T : List (List UInt8)) (hlen : l.length = T.length) (htot : (jn T).length ≤ 1000000000)
    (hk : ∀ (k : Nat) (x : Ins) (t : List UInt8), l[k]? = some x → T[k]? = some t → ∀ w : World, Calls Try.prog 111 #[.agg #[.int .i64 x.op, .int .i64 x.a, .int .i64 x.b, .int .i64 x.c, .string x.tree]] w fun e w' => e = .returned (.string ⟨t.toArray⟩) ∧ Below w.heap.size w w')
    (w : World) (hl : InsRow w w.heap.size v l) :
    Calls Try.prog 77 #[v] w fun e w' => e = .returned (.string ⟨(jn T).toArray⟩) ∧ Below w.heap.size w w' := by
  obtain ⟨ao, cap, rfl⟩ := hl.len
  have hb0 := hl.2.1
  obtain ⟨n, hn'⟩ : ∃ n, l.length = n := ⟨_, rfl⟩
  rw [hn'] at hlen hl hb0 ⊢
  have HN := Lib.hid hn'
  have HLT := Lib.hid hlen
  have HL := Lib.hid hl
  have HK := Lib.hid hk
  have HT := Lib.hid htot
  obtain ⟨R, hR⟩ : ∃ r, (⟨(jn T).toArray⟩ : ByteArray) = r := ⟨_, rfl⟩
  rw [hR]
  have HR := Lib.hid hR
  clear hn' hlen hl hk htot hR
  go_enter Try.func77, Try.ntmps77
  go_wp2
  go_loopg [3, 4] n (fun g v i wr => ∃ k m : Nat, k ≤ n ∧ g = n - k ∧ i = .int .i64 k ∧ Aside (m = (jn (T.take k)).length) ∧ Hid (wr.ownsRow w.heap.size 5 1 v m (Lib.byteCells (jn (T.take k))) ∧ Below w.heap.size w wr))
  case atStart => exact ⟨0, 0, Nat.zero_le _, rfl, rfl, rfl, World.ownsRow_nil _ _ _ _, Below.refl _ _⟩
  case round =>
    obtain ⟨k, m, hk, hg, rfl, hm, hP⟩ := hrel
    have HG := Lib.hid hg; clear hg
    have HM := Lib.hid hm.out
    clear hm
    have hmb : m ≤ 1000000000 := by rw [HM.out]; exact Nat.le_trans (jn_mono T k) HT.out
    by_cases hlt : k < n
    · obtain ⟨x, hx⟩ : ∃ s, l[k]? = some s := ⟨_, List.getElem?_eq_getElem (by rw [HN.out]; exact hlt)⟩
      obtain ⟨t, ht⟩ : ∃ s, T[k]? = some s := ⟨_, List.getElem?_eq_getElem (by rw [← HLT.out]; exact hlt)⟩
      have hl2 := HL.out.below hP.out.2
      obtain ⟨g, off, rfl, hg, c0, c1, c2, c3, c4⟩ := hl2.get hx
      have HS := Lib.hid (jn_succ T k ht)
      have hm2 : m + (if k = 0 then 0 else 2) + t.length ≤ 1000000000 := by
        have h1 := Nat.le_trans (jn_mono T (k + 1)) HT.out
        rw [HS.out, List.length_append, List.length_append, ← HM.out] at h1
        split <;> rename_i h <;> simp [h] at h1 <;> omega
      have kt := HK.out k x t hx ht
      have HTX := Lib.hid ht
      have HX := Lib.hid hx
      clear hx hl2 ht
      have hi0 : (0 : Int) ≤ (k : Int) := Int.natCast_nonneg _
      have hi1 : (k : Int) < (n : Int) := by omega
      by_cases h0 : k = 0
      · rw [if_pos h0] at hm2
        rw [if_pos h0] at HS
        have H0 := Lib.hid h0
        have hi2 : ¬ (0 : Int) < (k : Int) := by omega
        clear h0
        go_wp2_with fail
        refine (kt _).mono ?_
        rintro e w1 ⟨rfl, hb1⟩
        have hown := own_below hP.out.1 hb1
        have hb2 := hP.out.2.trans (hb1.mono hP.out.2.size)
        have hsz := hb2.size
        clear hb1 kt c0 c1 c2 c3 c4 hP
        go_wp2_with (at_builtin; refine app_str el_u8 Try.underlying9 rfl _ _ rfl rfl hown ⟨t.toArray⟩ rfl ?c2 hsz hb2 (Nat.le_refl _) ?_)
        case c2 => have : (⟨t.toArray⟩ : ByteArray).size = t.length := by simp [ByteArray.size]
                   omega
        intro v' w' hown' hb'
        have hnew : Hid (w'.ownsRow w.heap.size 5 1 v' (m + t.length) (Lib.byteCells (jn (T.take (k + 1)))) ∧ Below w.heap.size w w') := Lib.hid ⟨by rw [HS.out]; simpa [Lib.byteCells, Lib.strCells, ByteArray.size] using hown', hb'⟩
        have hlen : Hid (m + t.length = (jn (T.take (k + 1))).length) := Lib.hid (by rw [HS.out, HM.out]; simp)
        clear hown hown' hb' hb2 hsz
        go_wp2
        go_roundg (n - (k + 1))
        case measure => rw [HG.out]; omega
        case rel => exact ⟨k + 1, m + t.length, by omega, rfl, by go_num, hlen.out, hnew⟩
      · rw [if_neg h0] at hm2
        have hi2 : (0 : Int) < (k : Int) := by omega
        have H0 := Lib.hid h0
        clear h0
        have hown := hP.out.1
        have hb := hP.out.2
        have hsz := hb.size
        go_wp2_with (at_builtin; refine app_str el_u8 Try.underlying9 rfl _ _ rfl rfl hown ⟨#[59, 32]⟩ rfl ?c2 hsz hb (Nat.le_refl _) ?_)
        case c2 => show m + 2 ≤ _; omega
        intro v1 w1 hown1 hb1
        have hr := HL.out.below hb1
        have HO1 := Lib.hid hown1
        have HB1 := Lib.hid hb1
        clear hown hb hsz hown1 hP c0 c1 c2 c3 c4
        obtain ⟨g2, off2, he, hg2, c0, c1, c2, c3, c4⟩ := hr.get HX.out
        cases he
        clear hr hb1
        go_wp2_with fail
        refine (kt _).mono ?_
        rintro e w2 ⟨rfl, hb2⟩
        have hown := own_below HO1.out hb2
        have hb3 := HB1.out.trans (hb2.mono HB1.out.size)
        have hsz := hb3.size
        clear hb2 kt c0 c1 c2 c3 c4 HO1 HB1
        go_wp2_with (at_builtin; refine app_str el_u8 Try.underlying9 rfl _ _ rfl rfl hown ⟨t.toArray⟩ rfl ?c2 hsz hb3 (Nat.le_refl _) ?_)
        case c2 => have h1 : (⟨t.toArray⟩ : ByteArray).size = t.length := by simp [ByteArray.size]
                   have h2 : (⟨#[59, 32]⟩ : ByteArray).size = 2 := rfl
                   omega
        intro v' w' hown' hb'
        have hnew : Hid (w'.ownsRow w.heap.size 5 1 v' (m + 2 + t.length) (Lib.byteCells (jn (T.take (k + 1)))) ∧ Below w.heap.size w w') := Lib.hid ⟨by rw [HS.out, if_neg H0.out]; simpa [Lib.byteCells, Lib.strCells, ByteArray.size] using hown', hb'⟩
        have hlen : Hid (m + 2 + t.length = (jn (T.take (k + 1))).length) := Lib.hid (by rw [HS.out, HM.out, if_neg H0.out]; simp; omega)
        clear hown hown' hb' hb3 hsz
        go_wp2
        go_roundg (n - (k + 1))
        case measure => rw [HG.out]; omega
        case rel => exact ⟨k + 1, m + 2 + t.length, by omega, rfl, by go_num, hlen.out, hnew⟩
    · have hta : T.take k = T := List.take_of_length_le (by rw [← HLT.out]; omega)
      have hown := hP.out.1
      rw [hta] at hown
      have hcv := own_bytes (P := Try.prog) (jn T) hown 126 Try.underlying126 Try.underlying5 9 Try.underlying9
      have hb := hP.out.2
      clear hown hta hP
      go_wp2
      refine bodyPost_ret (v := .string ⟨(jn T).toArray⟩) (by simp [results, Try.results77, go_sem]) rfl ?_
      exact ⟨by rw [← HR.out], hb⟩
theorem textPair_any (v : Value) (w : World) (hl : InsRow w w.heap.size v (pairL [] [])) : Calls Try.prog 77 #[v] w fun e w' => e = .returned (.string ⟨#[109, 111, 118, 101, 32, 49, 32, 48, 59, 32, 109, 111, 118, 101, 32, 50, 32, 48, 59, 32, 109, 111, 118, 101, 32, 48, 32, 49, 59, 32, 99, 111, 110, 115, 32, 48, 32, 50, 32, 48]⟩) ∧ Below w.heap.size w w' := by
  have h := text_any v (pairL [] []) txL (by decide) (by decide) textOf_all w hl
  rwa [show (⟨(jn txL).toArray⟩ : ByteArray) = ⟨#[109, 111, 118, 101, 32, 49, 32, 48, 59, 32, 109, 111, 118, 101, 32, 50, 32, 48, 59, 32, 109, 111, 118, 101, 32, 48, 32, 49, 59, 32, 99, 111, 110, 115, 32, 48, 32, 50, 32, 48]⟩ by decide] at h

end Go.Proofs.Ytaiomcjopgnfpaa


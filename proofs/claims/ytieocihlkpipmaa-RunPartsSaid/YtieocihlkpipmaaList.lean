/- The walk of tree.List. -/
import Derived.Test.YtieocihlkpipmaaListP
import Derived.Test.YtieocihlkpipmaaRefT
namespace Go.Proofs.Ytieocihlkpipmaa
open Go.RowKit

theorem ret_se2 {a b : ByteArray} {c d : Int} (h : a = b) (h' : c = d) : Ending.returned (.tuple #[.string a, .int .i64 c]) = .returned (.tuple #[.string b, .int .i64 d]) := by rw [h, h']

theorem take_snoc' {α : Type} (l : List α) (k : Nat) (s : α) (h : l[k]? = some s) : l.take (k + 1) = l.take k ++ [s] := by
  rw [List.take_add_one, h]; rfl
theorem allTree_bad {l : List ByteArray} {k : Nat} {s : ByteArray} (h : l[k]? = some s) (hb : isTree s = false) : listE l = 1 ∧ listS l = ⟨#[]⟩ := by
  have : allTree l = false := by
    rw [Bool.eq_false_iff]; intro ha
    have := List.all_eq_true.1 ha s (List.mem_of_getElem? h)
    rw [hb] at this; cases this
  exact ⟨by unfold listE; rw [this]; rfl, by unfold listS; rw [this]; rfl⟩
/-- The bytes that are written for some strings. -/
def lwr (l : List ByteArray) : List UInt8 := (l.map fun s : ByteArray => (49 : UInt8) :: s.data.toList).flatten
theorem lwr_snoc (l : List ByteArray) (s : ByteArray) : lwr (l ++ [s]) = lwr l ++ (49 :: s.data.toList) := by simp [lwr]
theorem lwr_length (l : List ByteArray) (h : allTree l = true) : (lwr l).length + 1 = lcount l := by
  obtain ⟨ts, rfl, hts⟩ := allTree_get h
  rw [lcount_TS ts hts, size_ofList, ← lenc_length]
  simp [lwr, lenc, Function.comp_def, TS_list]; omega
theorem lcount_take (l : List ByteArray) (k : Nat) : lcount (l.take k) ≤ lcount l := by
  conv => rhs; rw [← List.take_append_drop k l]
  simp only [lcount, List.map_append, List.sum_append]; omega
theorem allTree_take {l : List ByteArray} (h : allTree l = true) (k : Nat) : allTree (l.take k) = true := by
  unfold allTree at *; rw [List.all_eq_true] at *; exact fun x hx => h x (List.mem_of_mem_take hx)

set_option maxHeartbeats 2000000 in
theorem list_any (v : Value) (l : List ByteArray) (w : World) (hl : StrRow w w.heap.size v l) (hn : l.length ≤ 4000000000) :
    Calls Try.prog 34 #[v] w fun e w' => e = .returned (.tuple #[.string (listS l), .int .i64 (listE l)]) ∧ Below w.heap.size w w' := by
  obtain ⟨ao, cap, rfl⟩ := hl.len
  obtain ⟨n, hn'⟩ : ∃ n, l.length = n := ⟨_, rfl⟩
  rw [hn'] at hn hl ⊢
  have HN := Lib.hid hn'; clear hn'
  obtain ⟨r1, hr1⟩ : ∃ r, listS l = r := ⟨_, rfl⟩
  obtain ⟨r2, hr2⟩ : ∃ r, listE l = r := ⟨_, rfl⟩
  rw [hr1, hr2]
  have H1 := Lib.hid hr1; clear hr1
  have H2 := Lib.hid hr2; clear hr2
  go_enter Try.func34, Try.ntmps34
  go_wp2
  go_loopg [4, 12] n (fun g c i wr => ∃ k m : Nat, k ≤ n ∧ g = n - k ∧ i = .int .i64 k ∧ c = .int .i64 m ∧ m ≤ 1 + k * 2000001 ∧ Aside (m = lcount (l.take k)) ∧ Aside (allTree (l.take k) = true) ∧ Below w.heap.size w wr)
  case atStart => exact ⟨0, 1, Nat.zero_le _, rfl, rfl, rfl, by omega, rfl, rfl, Below.refl _ _⟩
  case round =>
    obtain ⟨k, m, hk, hg, rfl, rfl, hm, hc, ha, hb⟩ := hrel
    have HG := Lib.hid hg; clear hg
    by_cases hlt : k < n
    · obtain ⟨s, hs⟩ : ∃ s, l[k]? = some s := ⟨_, List.getElem?_eq_getElem (by rw [HN.out]; exact hlt)⟩
      have hlr := hl.below hb
      obtain ⟨g, off, rfl, hg, hcell⟩ := hlr.get hs
      have hz := hlr.size hs
      have HS := Lib.hid hs; clear hs
      have hmI : (m : Int) ≤ 1 + k * 2000001 := by omega
      cases htr : isTree s with
      | true =>
        have hv := fun w => treeValid_any s hz w
        rw [htr] at hv
        have hms : min (s.size : Int) 2000000 = ((min s.size 2000000 : Nat) : Int) := by omega
        have hm2 : min s.size 2000000 ≤ 2000000 := by omega
        have HT := Lib.hid htr; clear htr
        go_wp2_with (go_at_call 44; refine (hv _).mono ?_; rintro e w' ⟨rfl, hb1⟩)
        go_roundg (n - (k + 1))
        case measure => rw [HG.out]; omega
        case rel =>
          refine ⟨k + 1, m + (min s.size 2000000 + 1), by omega, rfl, by go_num, by go_num, by omega, ?_, ?_, hb.trans (hb1.mono hb.size)⟩
          · show _ = _; rw [take_snoc' _ _ _ HS.out, lcount_snoc, ← hc.out]
          · show _ = _; rw [take_snoc' _ _ _ HS.out, allTree, List.all_append]; simp only [List.all_cons, HT.out, List.all_nil, Bool.and_true]; exact ha.out
      | false =>
        have hv := fun w => treeValid_any s hz w
        rw [htr] at hv
        have hbad := Lib.hid (allTree_bad HS.out htr)
        clear htr
        go_wp2_with (go_at_call 44; refine (hv _).mono ?_; rintro e w' ⟨rfl, hb1⟩)
        go_ret2
        refine ⟨ret_se2 ?_ ?_, hb.trans (hb1.mono hb.size)⟩
        · rw [← H1.out, hbad.out.2]
        · rw [← H2.out, hbad.out.1]
    · have hkn : k = n := by omega
      have hta : l.take k = l := List.take_of_length_le (by rw [HN.out]; omega)
      have hc' := hc.out
      have ha' := ha.out
      rw [hta] at hc' ha'
      have HC := Lib.hid hc'; have HA := Lib.hid ha'
      clear hc ha hc' ha' hta hkn
      by_cases hbig : (2000000 : Int) < m
      · go_wp2
        go_ret2
        refine ⟨ret_se2 ?_ ?_, hb⟩
        · rw [← H1.out]; unfold listS; rw [HA.out, ← HC.out, decide_eq_false (by omega)]; rfl
        · rw [← H2.out]; unfold listE; rw [HA.out, ← HC.out, if_pos rfl, if_neg (by omega)]
      · go_wp2
        have hB0 : Lib.IsBuilder 118 5 wr.heap.size wr.heap.size (Lib.byteCells []) (wr.alloc (.cells #[.pointer none, .slice none 0 0] 118)) := Lib.fresh_isBuilder _ _ wr
        have hb0 : Below w.heap.size w (wr.alloc (.cells #[.pointer none, .slice none 0 0] 118)) := hb.alloc hb.size _
        have hs0 : wr.heap.size < (wr.alloc (.cells #[.pointer none, .slice none 0 0] 118)).heap.size := by simp
        have hwb := hb.size
        clear hb
        generalize wr.alloc (.cells #[.pointer none, .slice none 0 0] 118) = w2 at *
        generalize wr.heap.size = b at *
        have hm2 : lcount l ≤ 2000000 := by rw [← HC.out]; omega
        have HM := Lib.hid hm2; clear hm2
        go_loopg [30] n (fun g i wr => ∃ k : Nat, k ≤ n ∧ g = n - k ∧ i = .int .i64 k ∧ Lib.IsBuilder 118 5 b b (Lib.byteCells (lwr (l.take k))) wr ∧ Below w.heap.size w wr ∧ b < wr.heap.size)
        case atStart => exact ⟨0, Nat.zero_le _, rfl, rfl, hB0, hb0, hs0⟩
        case round =>
          clear hB0 hb0 hs0
          obtain ⟨k', hk', hg', rfl, hB, hb, hsb⟩ := hrel
          have HG' := Lib.hid hg'; clear hg'
          have hlen : (lwr (l.take k')).length + 1 ≤ 2000000 := by
            rw [lwr_length _ (allTree_take HA.out k')]; exact Nat.le_trans (lcount_take l k') HM.out
          by_cases hlt' : k' < n
          · obtain ⟨s, hs⟩ : ∃ s, l[k']? = some s := ⟨_, List.getElem?_eq_getElem (by rw [HN.out]; exact hlt')⟩
            have hlr := hl.below hb
            obtain ⟨g, off, rfl, hg, hcell⟩ := hlr.get hs
            have hlen2 : (lwr (l.take (k' + 1))).length + 1 ≤ 2000000 := by
              rw [lwr_length _ (allTree_take HA.out (k' + 1))]; exact Nat.le_trans (lcount_take l (k' + 1)) HM.out
            have hsn := Lib.hid (take_snoc' l k' s hs)
            rw [take_snoc' l k' s hs, lwr_snoc] at hlen2
            have hss : s.data.toList.length = s.size := by simp
            simp only [List.length_append, List.length_cons, hss] at hlen2
            clear hs hss
            have hc2 : ∀ wx : World, Below w.heap.size w wx → wx.cell? ⟨g, off + k', none⟩ = some (.string s) := fun wx hx => by
              have h1 := hb.cell (p := ⟨g, off + k', none⟩) hg
              have h2 := hx.cell (p := ⟨g, off + k', none⟩) hg
              rw [h2, ← h1]; exact hcell
            clear hc2
            go_wp2_with fail
            refine (Try.Builder_WriteByte b b _ 49 _ hB (by rw [Lib.byteCells_length]; omega) (by omega)).mono ?_
            rintro e w3 ⟨rfl, hB3, hb3⟩
            have hs3 := hb3.size
            go_wp2_with fail
            refine (Try.Builder_WriteString b b _ s _ (.inr hB3) (by rw [List.length_append, Lib.byteCells_length]; simp; omega) (by omega)).mono ?_
            rintro e w4 ⟨rfl, hB4, hb4⟩
            have hs4 := hb4.size
            go_wp2
            go_roundg (n - (k' + 1))
            case measure => rw [HG'.out]; omega
            case rel =>
              refine ⟨k' + 1, by omega, rfl, by go_num, ?_, (hb.trans (hb3.mono hwb)).trans (hb4.mono hwb), by omega⟩
              refine .inr ?_
              have : Lib.byteCells (lwr (l.take (k' + 1))) = Lib.byteCells (lwr (l.take k')) ++ [.int .u8 49] ++ Lib.strCells s := by
                rw [hsn.out, lwr_snoc]; simp [Lib.byteCells, Lib.strCells]
              rw [this]; exact hB4
          · have hta : l.take k' = l := List.take_of_length_le (by rw [HN.out]; omega)
            rw [hta] at hB hlen
            clear hta
            go_wp2_with fail
            refine (Try.Builder_WriteByte b b _ 48 _ hB (by rw [Lib.byteCells_length]; omega) (by omega)).mono ?_
            rintro e w3 ⟨rfl, hB3, hb3⟩
            have hs3 := hb3.size
            have hB3' : Lib.IsBuilder 118 5 b b (Lib.byteCells (lwr l ++ [48])) w3 := by
              refine .inr ?_
              have : Lib.byteCells (lwr l ++ [48]) = Lib.byteCells (lwr l) ++ [.int .u8 48] := by simp [Lib.byteCells]
              rw [this]; exact hB3
            go_wp2_with fail
            refine (Try.Builder_String_any b b _ _ hB3' (by omega)).mono ?_
            rintro e w4 ⟨rfl, hb4⟩
            go_wp2
            go_ret2
            refine ⟨ret_se2 ?_ ?_, (hb.trans (hb3.mono hwb)).trans (hb4.mono hwb)⟩
            · rw [← H1.out]; unfold listS; rw [HA.out, decide_eq_true HM.out]; rfl
            · rw [← H2.out]; unfold listE; rw [HA.out, if_pos rfl, if_pos HM.out]

end Go.Proofs.Ytieocihlkpipmaa

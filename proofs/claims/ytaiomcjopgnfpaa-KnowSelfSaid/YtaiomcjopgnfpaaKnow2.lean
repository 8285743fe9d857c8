/- know.join; the code of a program is a tree. -/
import Derived.Test.YtaiomcjopgnfpaaKnow1
namespace Go.Proofs.Ytaiomcjopgnfpaa
open Go.RowKit

theorem flat_len_take (ls : List (List Ins)) (k : Nat) : ((ls.take k).flatten).length ≤ lenS ls := by rw [lenS_flatten]; exact lenS_take ls k
set_option maxHeartbeats 4000000 in
theorem join_any (v : Value) (ls : List (List Ins)) (w : World) (hl : ProgsRow w w.heap.size v ls) (hT : lenS ls ≤ 1000000000) :
    Calls Try.prog 93 #[v] w fun e w' => ∃ a c, e = .returned (.tuple #[.slice a (lenS ls) c, .bool (validB ls.flatten)]) ∧ InsRow w' w'.heap.size (.slice a (lenS ls) c) ls.flatten ∧ Below w.heap.size w w' := by
  obtain ⟨ao, cap, rfl⟩ := hl.len
  have hn5 := hl.1
  obtain ⟨n, hn'⟩ : ∃ n, ls.length = n := ⟨_, rfl⟩
  rw [hn'] at hl hn5 ⊢
  have HN := Lib.hid hn'; clear hn'
  have HL := Lib.hid hl; clear hl
  have HT := Lib.hid hT; clear hT
  obtain ⟨N, hN⟩ : ∃ N, lenS ls = N := ⟨_, rfl⟩
  obtain ⟨bv, hbv⟩ : ∃ b, validB ls.flatten = b := ⟨_, rfl⟩
  rw [hN, hbv]
  have HNN := Lib.hid hN
  have HBV := Lib.hid hbv
  clear hN hbv
  go_enter Try.func93, Try.ntmps93
  go_wp2
  go_loopg [4, 9] n (fun gg o i wr => ∃ k : Nat, k ≤ n ∧ gg = n - k ∧ i = .int .i64 k ∧ Hid (OwnI wr w.heap.size o (ls.take k).flatten ∧ Below w.heap.size w wr))
  case atStart => exact ⟨0, by omega, rfl, rfl, OwnI.nil _ _, Below.refl _ _⟩
  case round =>
    obtain ⟨k, hk, hg, rfl, hP⟩ := hrel
    have HG := Lib.hid hg; clear hg
    by_cases hlt : k < n
    · obtain ⟨l, hx⟩ : ∃ s, ls[k]? = some s := ⟨_, List.getElem?_eq_getElem (by rw [HN.out]; exact hlt)⟩
      have hl2 := HL.out.step hP.out.2
      obtain ⟨g, off, u, rfl, hg, c0, hu⟩ := hl2.get hx
      have hi0 : (0 : Int) ≤ (k : Int) := Int.natCast_nonneg _
      have hi1 : (k : Int) < (n : Int) := by omega
      have hb1 := flat_len_take ls (k + 1)
      rw [take_snoc' _ _ _ hx, List.flatten_append, List.length_append] at hb1
      simp only [List.flatten_cons, List.flatten_nil, List.append_nil] at hb1
      have HB := Lib.hid (Nat.le_trans hb1 HT.out)
      have HX := Lib.hid hx
      clear hx hl2 hb1
      have ho0 := hP.out.1
      have hb0 := hP.out.2
      go_wp2_with (at_builtin; refine app_row rfl _ _ rfl (vx := u) rfl ho0 rfl hu ?c2 hb0 ?_)
      case c2 => exact HB.out
      intro a1 k1 s1 w1 hk1 ho hbb
      have hnew : Hid (OwnI w1 w.heap.size (.slice a1 k1 s1) (ls.take (k + 1)).flatten ∧ Below w.heap.size w w1) := Lib.hid ⟨by rw [take_snoc' _ _ _ HX.out, List.flatten_append]; simpa using ho.out, hbb.out⟩
      clear ho0 hb0 hu c0 ho hbb hP hk1
      go_wp2
      go_roundg (n - (k + 1))
      case measure => rw [HG.out]; omega
      case rel => exact ⟨k + 1, by omega, rfl, by go_num, hnew⟩
    · have hkn : k = n := by omega
      subst hkn
      rw [List.take_of_length_le (by rw [HN.out]; omega)] at hP
      have hsl := hP.out.1.slice
      rw [lenS_flatten, HNN.out] at hsl
      obtain ⟨a2, c2, rfl⟩ := hsl
      have hrow := Lib.hid (hP.out.1.row (by rw [lenS_flatten]; have := HT.out; omega))
      have hb0 := Lib.hid hP.out.2
      have kv := codeValidP_at _ ls.flatten _ hrow.out _ HBV.out
      clear hP
      go_wp2_with fail
      refine kv.mono ?_
      rintro e w2 ⟨rfl, hb2⟩
      have hrow := Lib.hid ((hrow.out.below hb2).mono hb2.size)
      have hb0 := Lib.hid (hb0.out.trans (hb2.mono hb0.out.size))
      clear hb2 kv
      go_wp2
      refine bodyPost_ret (v := .tuple #[.slice a2 N c2, .bool bv]) (by simp [results, Try.results93, go_sem]) rfl ?_
      exact ⟨_, _, rfl, hrow.out, hb0.out⟩

/-- The code as a tree. -/
def bodyT (x : Ins) : Tr :=
  if x.op = 0 then .pair (.num x.a.toNat) (toTr x.tree)
  else if x.op = 2 then .pair (.num x.a.toNat) (.pair (.num x.b.toNat) (.num x.c.toNat))
  else if x.op = 5 then (if x.b < 0 then .pair (.num x.a.toNat) (.pair (.pair .nil .nil) (.num (-x.b).toNat)) else .pair (.num x.a.toNat) (.pair .nil (.num x.b.toNat)))
  else .pair (.num x.a.toNat) (.num x.b.toNat)
def insT (x : Ins) : Tr := .pair (.num x.op.toNat) (bodyT x)
def codeT : List Ins → Tr
  | [] => .nil
  | x :: l => .pair (insT x) (codeT l)
theorem bodyT_enc {x : Ins} {i n : Int} (h : rightB x i n = true) : (bodyT x).enc = (bodyB x).data.toList := by
  have hl : ∀ t : Tr, t.enc = (TS t).data.toList := fun t => (TS_list t).symm
  unfold bodyT bodyB
  by_cases h0 : x.op = 0
  · rw [if_pos h0, if_pos h0]
    have ht : isTree x.tree = true := by
      unfold rightB at h
      simp only [Bool.and_eq_true] at h
      have h3 := h.2
      rw [if_pos h0, Bool.and_eq_true] at h3
      exact h3.2
    have h4 : (toTr x.tree).enc = x.tree.data.toList := by rw [hl, TS_toTr ht]
    simp [Tr.enc, h4, hl]
  · rw [if_neg h0, if_neg h0]
    by_cases h2 : x.op = 2
    · rw [if_pos h2, if_pos h2]; simp [Tr.enc, hl]
    · rw [if_neg h2, if_neg h2]
      by_cases h5 : x.op = 5
      · rw [if_pos h5, if_pos h5]
        by_cases hb : x.b < 0
        · rw [if_pos hb, if_pos hb]; simp [Tr.enc, hl]
        · rw [if_neg hb, if_neg hb]; simp [Tr.enc, hl]
      · rw [if_neg h5, if_neg h5]; simp [Tr.enc, hl]
theorem codeT_enc : ∀ (l : List Ins), (∀ x ∈ l, ∃ i n, rightB x i n = true) → (codeT l).enc = codeLs l ++ [48]
  | [], _ => rfl
  | x :: l, h => by
    obtain ⟨i, n, hr⟩ := h x (List.mem_cons_self)
    have h1 := codeT_enc l (fun y hy => h y (List.mem_cons_of_mem _ hy))
    have hl : ∀ t : Tr, t.enc = (TS t).data.toList := fun t => (TS_list t).symm
    show 49 :: ((49 :: ((Tr.num x.op.toNat).enc ++ (bodyT x).enc)) ++ (codeT l).enc) = _
    rw [h1, bodyT_enc hr]
    have h3 : codeLs (x :: l) = ciL x ++ codeLs l := by simp [codeLs]
    rw [h3]
    unfold ciL
    simp [hl]
theorem valid_rights {l : List Ins} (hv : rightAll l = true) : ∀ x ∈ l, ∃ i n, rightB x i n = true := by
  intro x hx
  obtain ⟨k, hk, rfl⟩ := List.getElem_of_mem hx
  exact ⟨_, _, rightAll_get hv (List.getElem?_eq_getElem hk)⟩
theorem codeOf_TS {l : List Ins} (hv : rightAll l = true) : codeOf l = TS (codeT l) := by
  unfold codeOf TS
  rw [codeT_enc l (valid_rights hv)]
theorem codeOf_size (l : List Ins) : (codeOf l).size = (codeLs l).length + 1 := by unfold codeOf; simp [ByteArray.size]
theorem codeOf_tree {l : List Ins} (hv : rightAll l = true) (hs : (codeLs l).length + 1 ≤ 2000000) : isTree (codeOf l) = true := by
  rw [codeOf_TS hv]
  refine isTree_TS _ ?_
  rw [← TS_size, ← codeOf_TS hv, codeOf_size]; exact hs

end Go.Proofs.Ytaiomcjopgnfpaa


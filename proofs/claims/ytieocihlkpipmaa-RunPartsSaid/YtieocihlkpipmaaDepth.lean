/- The walks of narcissusref01.Depth and tree.Depth. -/
import Derived.Test.YtieocihlkpipmaaRefT
import Derived.StillTailTactics
namespace Go.Proofs.Ytieocihlkpipmaa
open Go.RowKit

/-- The stack of depths. -/
def dstack (ts : List Tr) : List Value := (ts.map fun t => Value.int .i64 t.depth).reverse
theorem dstack_length (ts : List Tr) : (dstack ts).length = ts.length := by simp [dstack]
theorem dstack_cons (t : Tr) (ts : List Tr) : dstack (t :: ts) = dstack ts ++ [.int .i64 t.depth] := by simp [dstack]

theorem pf_at (t : Tr) (q : Nat) (h : q < (TS t).size) : ∃ us ts, pf (t.enc.drop (q + 1)) = some us ∧ pf (t.enc.drop q) = some ts ∧
    ((((TS t)[q].toNat : Int) = 48 ∧ ts = .nil :: us) ∨ (((TS t)[q].toNat : Int) = 49 ∧ ∃ a b r, us = a :: b :: r ∧ ts = .pair a b :: r)) := by
  obtain ⟨us, hu⟩ := pf_drop _ _ (pf_one t) (q + 1)
  obtain ⟨ts, ht⟩ := pf_drop _ _ (pf_one t) q
  have hl : q < t.enc.length := by rw [TS_size, ← Tr.enc_length] at h; exact h
  have e : t.enc.drop q = t.enc[q] :: t.enc.drop (q + 1) := List.drop_eq_getElem_cons hl
  refine ⟨us, ts, hu, ht, ?_⟩
  rw [TS_get]
  rw [e] at ht
  by_cases h8 : t.enc[q] = 48
  · rw [h8, pf_48 hu] at ht
    rw [h8]; exact .inl ⟨rfl, by simpa using ht.symm⟩
  · by_cases h9 : t.enc[q] = 49
    · rw [h9] at ht ⊢
      match us, hu with
      | a :: b :: r, hu => rw [pf_49 hu] at ht; exact .inr ⟨rfl, a, b, r, rfl, by simpa using ht.symm⟩
      | [], hu => rw [pf_49_few hu (by simp)] at ht; cases ht
      | [a], hu => rw [pf_49_few hu (by simp)] at ht; cases ht
    · rw [pf_else h8 h9] at ht; cases ht

set_option maxHeartbeats 1000000 in
theorem refDepth_ok (t : Tr) (hs : t.size ≤ 2000000) (w : World) :
    Calls Try.prog 66 #[.string (TS t)] w fun e w' => e = .returned (.int .i64 t.depth) ∧ Below w.heap.size w w' := by
  have hz : (TS t).size = t.size := TS_size t
  have h1 : (1 : Int) ≤ t.size := by have := t.size_pos; omega
  have h2 : (t.size : Int) ≤ 2000000 := by omega
  have hf : pf (t.enc.drop t.size) = some [] := by rw [List.drop_eq_nil_of_le (by rw [Tr.enc_length]; exact Nat.le_refl _)]; rfl
  have HF := Lib.hid hf; clear hf hs
  go_enter Try.func66, Try.ntmps66
  go_wp2
  go_loopg [3, 4] t.size (fun g v i wr => ∃ (j : Nat) (ts : List Tr), j ≤ t.size ∧ g = j ∧ i = .int .i64 ((j : Int) - 1) ∧ Aside (pf (t.enc.drop j) = some ts) ∧ wr.ownsRow w.heap.size 3 1 v ts.length (dstack ts) ∧ Below w.heap.size w wr)
  case atStart => exact ⟨t.size, [], Nat.le_refl _, rfl, rfl, HF.out, World.ownsRow_nil _ _ _ _, Below.refl _ _⟩
  case round =>
    obtain ⟨j, ts, hj, hg, hi, hp, hown, hb⟩ := hrel
    have HG := Lib.hid hg; clear hg
    have hsz := hb.size
    have hlen := pf_length _ _ hp.out
    rw [List.length_drop, Tr.enc_length] at hlen
    cases j with
    | succ q =>
      rw [show (((q + 1 : Nat) : Int) - 1) = (q : Int) from by omega] at hi
      subst hi
      have hq : q < (TS t).size := by omega
      obtain ⟨us, ts', hu, ht, hcase⟩ := pf_at t q hq
      obtain rfl : us = ts := by have := hp.out; rw [hu] at this; simpa using this
      clear hp hu
      have HT : Aside (pf (t.enc.drop q) = some ts') := ht
      clear ht
      rcases hcase with ⟨h8, rfl⟩ | ⟨h9, a, b, r, rfl, rfl⟩
      · go_wp2_with (at_builtin; refine app_new el_int rfl _ _ rfl rfl hown [.int .i64 0] 1 rfl rfl ?c1 ?c2 ?c3 hsz hb (Nat.le_refl _) ?_)
        case c1 => intro u hu; simp at hu; rcases hu with rfl; rfl
        case c2 => omega
        case c3 => unfold maxLen; omega
        intro v' w' hown' hb' hgr
        clear hown hb
        go_wp2
        go_roundg q
        case measure => rw [HG.out]; omega
        case rel => exact ⟨q, .nil :: us, by omega, rfl, rfl, HT, by rw [dstack_cons]; exact hown', hb'⟩
      · have b8 : (((TS t)[q].toNat : Int) == 48) = false := beq_eq_false_iff_ne.2 (by omega)
        obtain ⟨g, cap, rfl, hg1, hg2, hnc, hcm, hcell, hfz⟩ := own_cells hown (by simp)
        have c1 : wr.cell? ⟨g, r.length + 1, none⟩ = some (.int .i64 a.depth) := by
          rw [hcell _ (by simp), dstack_cons, List.getElem?_append_right (by simp [dstack_length])]; simp [dstack_length]
        have c2 : wr.cell? ⟨g, r.length, none⟩ = some (.int .i64 b.depth) := by
          rw [hcell _ (by simp; omega), dstack_cons, dstack_cons, List.append_assoc, List.getElem?_append_right (by simp [dstack_length])]; simp [dstack_length]
        clear hcell hfz
        obtain ⟨n, hn⟩ : ∃ n, (a :: b :: r).length = n + 2 := ⟨r.length, by simp⟩
        have hn' : r.length = n := by simpa using hn
        rw [hn] at hown hnc hlen ⊢
        rw [hn'] at c1 c2
        have e1 : ((n : Int) + 2 - 1).toNat = n + 1 := by omega
        have e2 : ((n : Int) + 2 - 2).toNat = n := by omega
        have o1 : (0 : Int) ≤ (n : Int) + 2 - 1 := by omega
        have o2 : (n : Int) + 2 - 1 < (n : Int) + 2 := by omega
        have o3 : (0 : Int) ≤ (n : Int) + 2 - 2 := by omega
        have o4 : (n : Int) + 2 - 2 < (n : Int) + 2 := by omega
        have HN := Lib.hid hn'; clear hn' hn
        have hda := (Tr.pair a b).depth_le
        have hzab : (Tr.pair a b).size ≤ t.size := by
          have h3 := congrArg List.length (pf_flat _ _ HT.out)
          simp [Tr.enc_length] at h3; omega
        have hw : wrap64 (1 + max (a.depth : Int) (b.depth : Int)) = ((Tr.pair a b).depth : Nat) := by
          have h3 : ((Tr.pair a b).depth : Int) = 1 + max (a.depth : Int) (b.depth : Int) := by simp [Tr.depth]; omega
          unfold wrap64; omega
        clear hda hzab
        go_wp2
        go_quiet (fail)
        have hb2 : Below w.heap.size w (wr.drewN nq) := below_drewN hb _
        have hown2 : (wr.drewN nq).ownsRow w.heap.size 3 1 (.slice (some ⟨g, 0, none⟩) n cap) n (dstack r) := by
          have : wr.ownsRow w.heap.size 3 1 (.slice (some ⟨g, 0, none⟩) n cap) n (dstack r) := by
            refine ownsRow_pop (last := [.int .i64 b.depth]) (by rw [dstack_length, HN.out, Nat.mul_one]) (ownsRow_pop (last := [.int .i64 a.depth]) (by simp [dstack_length, HN.out]) ?_)
            rw [dstack_cons, dstack_cons] at hown; exact hown
          exact this
        have hs2 : w.heap.size ≤ (wr.drewN nq).heap.size := hsz
        clear c1 c2 hown
        generalize wr.drewN nq = w2 at *
        go_wp2_with (at_builtin; refine app_new el_int rfl _ _ rfl rfl hown2 [.int .i64 (Tr.pair a b).depth] 1 rfl rfl ?c1 ?c2 ?c3 hs2 hb2 (Nat.le_refl _) ?_)
        case c1 => intro u hu; simp at hu; rcases hu with rfl; rfl
        case c2 => omega
        case c3 => unfold maxLen at *; omega
        intro v' w' hown' hb' hgr
        clear hown2 hb2
        go_wp2
        go_roundg q
        case measure => rw [HG.out]; omega
        case rel => exact ⟨q, .pair a b :: r, by omega, rfl, rfl, HT, by rw [dstack_cons, List.length_cons, HN.out]; exact hown', hb'⟩
    | zero =>
      rw [show (((0 : Nat) : Int) - 1) = -1 from rfl] at hi
      subst hi
      have hp' := hp.out
      rw [List.drop_zero, pf_one] at hp'
      obtain rfl : [t] = ts := by simpa using hp'
      obtain ⟨g, cap, rfl, hg1, hg2, hnc, hcm, hcell, hfz⟩ := own_cells hown (by simp)
      have c1 : wr.cell? ⟨g, 0, none⟩ = some (.int .i64 t.depth) := by rw [hcell _ (by simp)]; rfl
      clear hcell hfz hp' hp hown
      go_wp2
      go_ret
      exact ⟨rfl, hb⟩

set_option maxHeartbeats 1000000 in
theorem treeDepth_ok (t : Tr) (hs : t.size ≤ 2000000) (w : World) :
    Calls Try.prog 61 #[.string (TS t)] w fun e w' => e = .returned (.tuple #[.int .i64 t.depth, .int .i64 0]) ∧ Below w.heap.size w w' := by
  have hz : (TS t).size = t.size := TS_size t
  have h1 : (1 : Int) ≤ t.size := by have := t.size_pos; omega
  have h2 : (t.size : Int) ≤ 2000000 := by omega
  have hf : pf (t.enc.drop t.size) = some [] := by rw [List.drop_eq_nil_of_le (by rw [Tr.enc_length]; exact Nat.le_refl _)]; rfl
  have HF := Lib.hid hf; clear hf
  have hv := fun w => valid_ok t hs w
  clear hs
  go_enter Try.func61, Try.ntmps61
  go_wp2_with (go_at_call 44; refine (hv _).mono ?_; rintro e w1 ⟨rfl, hb0⟩)
  clear hv
  go_loopg [4, 5] t.size (fun g v i wr => ∃ (j : Nat) (ts : List Tr), j ≤ t.size ∧ g = j ∧ i = .int .i64 ((j : Int) - 1) ∧ Aside (pf (t.enc.drop j) = some ts) ∧ wr.ownsRow w.heap.size 3 1 v ts.length (dstack ts) ∧ Below w.heap.size w wr)
  case atStart => exact ⟨t.size, [], Nat.le_refl _, rfl, rfl, HF.out, World.ownsRow_nil _ _ _ _, hb0⟩
  case round =>
    obtain ⟨j, ts, hj, hg, hi, hp, hown, hb⟩ := hrel
    have HG := Lib.hid hg; clear hg
    have hsz := hb.size
    have hlen := pf_length _ _ hp.out
    rw [List.length_drop, Tr.enc_length] at hlen
    cases j with
    | succ q =>
      rw [show (((q + 1 : Nat) : Int) - 1) = (q : Int) from by omega] at hi
      subst hi
      have hq : q < (TS t).size := by omega
      obtain ⟨us, ts', hu, ht, hcase⟩ := pf_at t q hq
      obtain rfl : us = ts := by have := hp.out; rw [hu] at this; simpa using this
      clear hp hu
      have HT : Aside (pf (t.enc.drop q) = some ts') := ht
      clear ht
      rcases hcase with ⟨h8, rfl⟩ | ⟨h9, a, b, r, rfl, rfl⟩
      · go_wp2_with (at_builtin; refine app_new el_int rfl _ _ rfl rfl hown [.int .i64 0] 1 rfl rfl ?c1 ?c2 ?c3 hsz hb (Nat.le_refl _) ?_)
        case c1 => intro u hu; simp at hu; rcases hu with rfl; rfl
        case c2 => omega
        case c3 => unfold maxLen; omega
        intro v' w' hown' hb' hgr
        clear hown hb
        go_wp2
        go_roundg q
        case measure => rw [HG.out]; omega
        case rel => exact ⟨q, .nil :: us, by omega, rfl, rfl, HT, by rw [dstack_cons]; exact hown', hb'⟩
      · have b8 : (((TS t)[q].toNat : Int) == 48) = false := beq_eq_false_iff_ne.2 (by omega)
        obtain ⟨g, cap, rfl, hg1, hg2, hnc, hcm, hcell, hfz⟩ := own_cells hown (by simp)
        have c1 : wr.cell? ⟨g, r.length + 1, none⟩ = some (.int .i64 a.depth) := by
          rw [hcell _ (by simp), dstack_cons, List.getElem?_append_right (by simp [dstack_length])]; simp [dstack_length]
        have c2 : wr.cell? ⟨g, r.length, none⟩ = some (.int .i64 b.depth) := by
          rw [hcell _ (by simp; omega), dstack_cons, dstack_cons, List.append_assoc, List.getElem?_append_right (by simp [dstack_length])]; simp [dstack_length]
        clear hcell hfz
        obtain ⟨n, hn⟩ : ∃ n, (a :: b :: r).length = n + 2 := ⟨r.length, by simp⟩
        have hn' : r.length = n := by simpa using hn
        rw [hn] at hown hnc hlen ⊢
        rw [hn'] at c1 c2
        have e1 : ((n : Int) + 2 - 1).toNat = n + 1 := by omega
        have e2 : ((n : Int) + 2 - 2).toNat = n := by omega
        have o1 : (0 : Int) ≤ (n : Int) + 2 - 1 := by omega
        have o2 : (n : Int) + 2 - 1 < (n : Int) + 2 := by omega
        have o3 : (0 : Int) ≤ (n : Int) + 2 - 2 := by omega
        have o4 : (n : Int) + 2 - 2 < (n : Int) + 2 := by omega
        have HN := Lib.hid hn'; clear hn' hn
        have hda := (Tr.pair a b).depth_le
        have hzab : (Tr.pair a b).size ≤ t.size := by
          have h3 := congrArg List.length (pf_flat _ _ HT.out)
          simp [Tr.enc_length] at h3; omega
        have W3 : IntKind.i64.wrap (1 + max (a.depth : Int) (b.depth : Int)) = ((Tr.pair a b).depth : Nat) := by
          have h3 : ((Tr.pair a b).depth : Int) = 1 + max (a.depth : Int) (b.depth : Int) := by simp [Tr.depth]; omega
          rw [IntWalk.i64_in _ (by omega)]; omega
        have hw : wrap64 (1 + max (a.depth : Int) (b.depth : Int)) = ((Tr.pair a b).depth : Nat) := by
          have h3 : ((Tr.pair a b).depth : Int) = 1 + max (a.depth : Int) (b.depth : Int) := by simp [Tr.depth]; omega
          unfold wrap64; omega
        clear hda hzab
        go_wp2
        have o5 : (n : Int) + 2 - 2 ≤ (cap : Int) := by omega
        have hb2 : Below w.heap.size w wr.drew := hb.drew
        have hown2 : wr.drew.ownsRow w.heap.size 3 1 (.slice (some ⟨g, 0, none⟩) n cap) n (dstack r) := by
          have : wr.ownsRow w.heap.size 3 1 (.slice (some ⟨g, 0, none⟩) n cap) n (dstack r) := by
            refine ownsRow_pop (last := [.int .i64 b.depth]) (by rw [dstack_length, HN.out, Nat.mul_one]) (ownsRow_pop (last := [.int .i64 a.depth]) (by simp [dstack_length, HN.out]) ?_)
            rw [dstack_cons, dstack_cons] at hown; exact hown
          exact this
        have hs2 : w.heap.size ≤ wr.drew.heap.size := hsz
        have n1 : (n + 1) * 8 ≤ 140737488355328 := by omega
        have n2 : n + 1 ≤ maxLen := by unfold maxLen; omega
        have W1 : IntKind.i64.wrap (n : Int) = n := IntWalk.i64_in _ (by omega)
        have W2 : IntKind.i64.wrap ((n : Int) + 2 - 1) = (n : Int) + 1 := by rw [IntWalk.i64_in _ (by omega)]; omega
        have e3 : ((n : Int) + 1).toNat = n + 1 := by omega
        have o6 : (n : Int) + 1 < (n : Int) + 2 := by omega
        have o7 : (0 : Int) ≤ (n : Int) + 1 := by omega
        have o8 : (n : Int) ≤ (cap : Int) := by omega
        have o9 : (n : Int) < (n : Int) + 2 := by omega
        have HB := Lib.hid hb2; clear hb2
        have HO := Lib.hid hown2; clear hown2
        clear hown hb
        go_region_law ((refine step_new el_int (by rfl) _ _ (by rfl) (by rfl) HO.out [.int .i64 (Tr.pair a b).depth] 1 (by rfl) (by rfl) (by decide) (by intro u hu; simp at hu; rcases hu with rfl; rfl) n1 n2 hs2 HB.out (Nat.le_refl _) ?_; intro g' cap' w2 hown' hb' hgr))
        all_goals
          go_wp2
          go_roundg q
          case measure => rw [HG.out]; omega
          case rel => exact ⟨q, .pair a b :: r, by omega, rfl, rfl, HT, by rw [dstack_cons, List.length_cons, HN.out]; exact hown', hb'⟩
    | zero =>
      rw [show (((0 : Nat) : Int) - 1) = -1 from rfl] at hi
      subst hi
      have hp' := hp.out
      rw [List.drop_zero, pf_one] at hp'
      obtain rfl : [t] = ts := by simpa using hp'
      obtain ⟨g, cap, rfl, hg1, hg2, hnc, hcm, hcell, hfz⟩ := own_cells hown (by simp)
      have c1 : wr.cell? ⟨g, 0, none⟩ = some (.int .i64 t.depth) := by rw [hcell _ (by simp)]; rfl
      clear hcell hfz hp' hp hown
      go_wp2
      go_ret2
      exact ⟨rfl, hb⟩

end Go.Proofs.Ytieocihlkpipmaa

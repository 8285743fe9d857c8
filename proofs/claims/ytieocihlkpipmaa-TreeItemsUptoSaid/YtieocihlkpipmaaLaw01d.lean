/- The walk of TreeOneWay. -/
import Derived.Test.YtieocihlkpipmaaLaw01c
namespace Go.Proofs.Ytieocihlkpipmaa
open Go.RowKit

theorem isTree_more (t : Tr) (m : ByteArray) (hm : m.toList.isEmpty = false) : isTree (TS t ++ m) = false := by
  rw [Bool.eq_false_iff]; intro h
  obtain ⟨u, hu, _⟩ := isTree_get h
  have h1 := congrArg (fun x : ByteArray => x.data.toList) hu
  simp only [TS_list] at h1
  have h2 : t.enc ++ m.data.toList = u.enc := by rw [← h1]; simp [TS_list]
  have h3 := endF_enc t m.data.toList 0
  have h4 := endF_enc u [] 0
  rw [h2] at h3
  rw [List.append_nil] at h4
  rw [h3] at h4
  simp [endF] at h4
  have h5 := congrArg List.length h2
  simp only [List.length_append, Tr.enc_length] at h5
  have h6 : m.data.toList = [] := List.length_eq_zero_iff.1 (by omega)
  rw [Lib.toList_data, h6] at hm
  cases hm
theorem isTree_less (t : Tr) (k : Nat) (hk : k < t.size) : isTree ((TS t).extract 0 k) = false := by
  rw [Bool.eq_false_iff]; intro h
  obtain ⟨u, hu, _⟩ := isTree_get h
  have h1 := congrArg (fun x : ByteArray => x.data.toList) hu
  simp only [TS_list, Lib.extract_data, List.drop_zero, Nat.sub_zero] at h1
  have h2 : u.enc ++ t.enc.drop k = t.enc := by rw [← h1]; exact List.take_append_drop ..
  have h3 := endF_enc u (t.enc.drop k) 0
  have h4 := endF_enc t [] 0
  rw [List.append_nil] at h4
  rw [h2, h4] at h3
  simp [endF] at h3
  have h5 := congrArg List.length h1
  rw [Tr.enc_length, List.length_take, Tr.enc_length] at h5
  omega
theorem cut_nat (c : Int) (z : Nat) (hz : 1 ≤ z) : ∃ d : Int, c.tmod z = d ∧ -(z : Int) < d ∧ d < z ∧ ∃ k : Nat, k < z ∧ (d + z).tmod z = k := by
  refine ⟨_, rfl, ?_, ?_, ((c.tmod z + z).tmod z).toNat, ?_, ?_⟩
  · have := Int.tmod_lt_of_pos (-c) (show (0 : Int) < z by omega); rw [Int.neg_tmod] at this; omega
  · exact Int.tmod_lt_of_pos c (by omega)
  · have h1 : -(z : Int) < c.tmod z := by have := Int.tmod_lt_of_pos (-c) (show (0 : Int) < z by omega); rw [Int.neg_tmod] at this; omega
    have := Int.tmod_lt_of_pos (c.tmod z + z) (show (0 : Int) < z by omega)
    have := Int.tmod_nonneg (z : Int) (show 0 ≤ c.tmod z + z by omega)
    omega
  · have h1 : -(z : Int) < c.tmod z := by have := Int.tmod_lt_of_pos (-c) (show (0 : Int) < z by omega); rw [Int.neg_tmod] at this; omega
    have := Int.tmod_nonneg (z : Int) (show 0 ≤ c.tmod z + z by omega)
    omega

set_option maxHeartbeats 2000000 in
theorem law_TreeOneWay (s : ByteArray) (hs : s.size ≤ 140737488355328) (m : ByteArray) (hm : m.size ≤ 140737488355328) (c : Int) (hc : -9223372036854775808 ≤ c ∧ c ≤ 9223372036854775807) (w : World) :
    Calls Try.prog 10 #[.string s, .string m, .int .i64 c] w fun e w' => e = .returned (.bool true) ∧ Below w.heap.size w w' := by
  rcases valid_or s (by omega) with ⟨t, rfl, ht⟩ | h1
  · have v1 := fun w => valid_ok t ht w
    have p1 := fun w => pairs_ok t ht w
    obtain ⟨d, hd, hd1, hd2, k, hk, hdk⟩ := cut_nat c t.size t.size_pos
    have v2 := fun w => treeValid_any ((TS t).extract 0 k) (by rw [ByteArray.size_extract, TS_size]; omega) w
    rw [isTree_less t k hk] at v2
    have v3 := fun w => treeValid_any (TS t ++ m) (by rw [ByteArray.size_append, TS_size]; omega) w
    have hz : (TS t).size = t.size := TS_size t
    have hzn : ((t.size : Int) != 2 * (t.pairs : Int) + 1) = false := by have := t.size_pairs; simp; omega
    have hzb : (t.size : Int) ≤ 2000000 := by omega
    have hz1 : (1 : Int) ≤ t.size := by have := t.size_pos; omega
    have hzne : ((t.size : Int) == 0) = false := by simp; omega
    have hpb : (t.pairs : Int) ≤ 1000000 := by have := t.size_pairs; omega
    have hkI : (k : Int) < t.size := by omega
    have hadd := fun w => run_string_add_sum (P := Try.prog) w (TS t) m (by omega)
    have a1 := fun w => awake01 w
    have hm3 := isTree_more t m
    generalize TS t = S at *
    generalize t.size = z at *
    generalize t.pairs = q at *
    clear hs hm hc
    cases he : m.toList.isEmpty with
    | true =>
      have hen : (!m.toList.isEmpty) = false := by rw [he]; rfl
      clear v3 hadd
      go_enter Try.func10, Try.ntmps10
      go_wp2_with fail
      refine (v1 _).mono ?_
      rintro e w1 ⟨rfl, k1⟩
      go_wp2_with fail
      refine (p1 _).mono ?_
      rintro e w2 ⟨rfl, k2⟩
      have c2 := k1.trans (k2.mono k1.size)
      clear k1 k2
      go_wp2_with fail
      refine (v2 _).mono ?_
      rintro e w3 ⟨rfl, k3⟩
      have c3 := c2.trans (k3.mono c2.size)
      clear k3 c2
      go_wp2_with fail
      refine (a1 _).mono ?_
      rintro e w4 ⟨rfl, k4⟩
      have c4 := c3.trans (k4.mono c3.size)
      go_wp2
      go_ret
      exact ⟨rfl, c4⟩
    | false =>
      have hen : (!m.toList.isEmpty) = true := by rw [he]; rfl
      rw [hm3 he] at v3
      clear hm3
      generalize S ++ m = SM at *
      go_enter Try.func10, Try.ntmps10
      go_wp2_with fail
      refine (v1 _).mono ?_
      rintro e w1 ⟨rfl, k1⟩
      go_wp2_with fail
      refine (p1 _).mono ?_
      rintro e w2 ⟨rfl, k2⟩
      have c2 := k1.trans (k2.mono k1.size)
      clear k1 k2
      go_wp2_with fail
      refine (v3 _).mono ?_
      rintro e w3 ⟨rfl, k3⟩
      have c3 := c2.trans (k3.mono c2.size)
      clear k3 c2
      go_wp2_with fail
      refine (v2 _).mono ?_
      rintro e w3 ⟨rfl, k3⟩
      have c4 := c3.trans (k3.mono c3.size)
      clear k3 c3
      go_wp2_with fail
      refine (a1 _).mono ?_
      rintro e w4 ⟨rfl, k4⟩
      have c5 := c4.trans (k4.mono c4.size)
      go_wp2
      go_ret
      exact ⟨rfl, c5⟩
  · have v1 := fun w => treeValid_any s (by omega) w
    rw [h1] at v1
    go_enter Try.func10, Try.ntmps10
    go_wp2_with fail
    refine (v1 _).mono ?_
    rintro e w1 ⟨rfl, k1⟩
    go_wp2_with fail
    refine (awake01 _).mono ?_
    rintro e w2 ⟨rfl, k2⟩
    have c2 := k1.trans (k2.mono k1.size)
    go_wp2
    go_ret
    exact ⟨rfl, c2⟩

end Go.Proofs.Ytieocihlkpipmaa

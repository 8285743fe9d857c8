/- code.fields: how the fields of a jump are read. -/
import Derived.Test.YtlaeljkjdfffjaaDec2
namespace Go.Proofs.Ytlaeljkjdfffjaa
open Go.RowKit

theorem vN_le {o : Option Tr} (h : SmallO o) : vN o ≤ 1000000 := by
  match o, h with
  | none, _ => exact Nat.zero_le _
  | some t, h =>
    have h1 := h t rfl
    rw [t.size_pairs] at h1
    unfold vN
    by_cases hn : t.isNum = true
    · simp only [hn, if_true]; omega
    · simp only [hn]; exact Nat.zero_le _
/-- The sign of a jump: on, or back by more than nothing. -/
def jB : Option Tr → Nat → Bool | some .nil, _ => true | some (.pair .nil .nil), n => decide (0 < n) | _, _ => false
def jN : Option Tr → Nat → Int | some (.pair .nil .nil), n => -(n : Int) | _, n => n
def sg0 : Option Tr → Bool | some .nil => true | _ => false
def sg1 : Option Tr → Bool | some (.pair .nil .nil) => true | _ => false
theorem sg_cases (o : Option Tr) (n : Nat) : (sg0 o = true ∧ sg1 o = false ∧ jB o n = true ∧ jN o n = n) ∨ (sg0 o = false ∧ sg1 o = true ∧ jB o n = decide (0 < n) ∧ jN o n = -(n : Int)) ∨ (sg0 o = false ∧ sg1 o = false ∧ jB o n = false ∧ jN o n = n) := by
  match o with
  | none => exact .inr (.inr ⟨rfl, rfl, rfl, rfl⟩)
  | some .nil => exact .inl ⟨rfl, rfl, rfl, rfl⟩
  | some (.pair .nil .nil) => exact .inr (.inl ⟨rfl, rfl, rfl, rfl⟩)
  | some (.pair (.pair _ _) _) => exact .inr (.inr ⟨rfl, rfl, rfl, rfl⟩)
  | some (.pair .nil (.pair _ _)) => exact .inr (.inr ⟨rfl, rfl, rfl, rfl⟩)
theorem sg0_eq (o : Option Tr) : ((OT o).toList == [48]) = sg0 o := by
  rw [ByteArray.toList_eq]
  match o with
  | none => rfl
  | some .nil => rfl
  | some (.pair a b) => show ((TS (.pair a b)).data.toList == [48]) = false; rw [TS_list]; rfl
theorem sg1_eq (o : Option Tr) : ((OT o).toList == [49, 48, 48]) = sg1 o := by
  rw [ByteArray.toList_eq]
  have key : ∀ t : Tr, t ≠ .pair .nil .nil → ((TS t).data.toList == [49, 48, 48]) = false := by
    intro t ht
    rw [TS_list, beq_eq_false_iff_ne]
    intro h
    exact ht (enc_inj (u := .pair .nil .nil) h)
  match o with
  | none => rfl
  | some .nil => rfl
  | some (.pair .nil .nil) => rfl
  | some (.pair (.pair _ _) _) => exact key _ (by simp)
  | some (.pair .nil (.pair _ _)) => exact key _ (by simp)
set_option maxHeartbeats 4000000 in
theorem get_jump0 (g : Nat) (op a b c : Int) (s0 t0 t1 t2 t3 t4 : ByteArray) (b0 b1 b2 b3 : Bool) (n2 n3 : Int) (_hn : 0 ≤ n3 ∧ n3 ≤ 1000000) (h0 : (t3.toList == [48]) = true) (h1 : (t3.toList == [49, 48, 48]) = false)
    (k0 : Hid (∀ w, Calls Try.prog 111 #[.string t0] w fun e w' => e = .returned (.tuple #[.string t1, .string t2, .bool b0]) ∧ Below w.heap.size w w'))
    (k1 : Hid (∀ w, Calls Try.prog 111 #[.string t2] w fun e w' => e = .returned (.tuple #[.string t3, .string t4, .bool b1]) ∧ Below w.heap.size w w'))
    (k2 : Hid (∀ w, Calls Try.prog 112 #[.string t1] w fun e w' => e = .returned (.tuple #[.int .i64 n2, .bool b2]) ∧ Below w.heap.size w w'))
    (k3 : Hid (∀ w, Calls Try.prog 112 #[.string t4] w fun e w' => e = .returned (.tuple #[.int .i64 n3, .bool b3]) ∧ Below w.heap.size w w'))
    (w : World) (hg : w.heap[g]? = some (.cells #[.int .i64 op, .int .i64 a, .int .i64 b, .int .i64 c, .string s0] 41 (0, 0))) :
    Calls Try.prog 141 #[.pointer (some ⟨g, 0, none⟩), .string t0] w fun e w' => e = .returned (.bool (b0 && b1 && b2 && b3 && true)) ∧ Boxed w w' g #[.int .i64 op, .int .i64 n2, .int .i64 n3, .int .i64 c, .string s0] := by
  have HG := Lib.hid hg
  clear hg
  go_enter Try.func141, Try.ntmps141
  go_wp2_with fail
  refine (k0.out _).mono ?_
  rintro e w1 ⟨rfl, hb1⟩
  have HB1 := Lib.hid hb1
  clear hb1 k0
  go_wp2_with fail
  refine (k1.out _).mono ?_
  rintro e w2 ⟨rfl, hb2⟩
  have HB2 := Lib.hid (HB1.out.trans (hb2.mono HB1.out.size))
  clear hb2 HB1 k1
  go_wp2_with fail
  refine (k2.out _).mono ?_
  rintro e w3 ⟨rfl, hb3⟩
  have HB3 := Lib.hid (HB2.out.trans (hb3.mono HB2.out.size))
  clear hb3 HB2 k2
  go_wp2_with fail
  refine (k3.out _).mono ?_
  rintro e w4 ⟨rfl, hb4⟩
  have HB4 := Lib.hid (HB3.out.trans (hb4.mono HB3.out.size))
  clear hb4 HB3 k3
  have hblk := blk_lift HB4.out HG.out
  obtain ⟨hcell, hfz⟩ := block_cells hblk
  have HX := Lib.hid (Boxed.of HB4.out HG.out)
  clear HB4 HG hblk
  have c1 := hcell 1
  have f1 := hfz 1
  simp only [List.getElem?_toArray, List.getElem?_cons_succ, List.getElem?_cons_zero] at c1
  have c2 := hcell 2
  have f2 := hfz 2
  simp only [List.getElem?_toArray, List.getElem?_cons_succ, List.getElem?_cons_zero] at c2
  clear hcell hfz
  cases b0
  · (go_wp2; go_ret; exact ⟨rfl, ((HX.out.set 1 _).set 2 _)⟩)
  · skip
    cases b1
    · (go_wp2; go_ret; exact ⟨rfl, ((HX.out.set 1 _).set 2 _)⟩)
    · skip
      cases b2
      · (go_wp2; go_ret; exact ⟨rfl, ((HX.out.set 1 _).set 2 _)⟩)
      · skip
        cases b3
        · (go_wp2; go_ret; exact ⟨rfl, ((HX.out.set 1 _).set 2 _)⟩)
        · (go_wp2; go_ret; exact ⟨rfl, ((HX.out.set 1 _).set 2 _)⟩)
set_option maxHeartbeats 4000000 in
theorem get_jump1 (g : Nat) (op a b c : Int) (s0 t0 t1 t2 t3 t4 : ByteArray) (b0 b1 b2 b3 : Bool) (n2 n3 : Int) (hn : 0 ≤ n3 ∧ n3 ≤ 1000000) (h0 : (t3.toList == [48]) = false) (h1 : (t3.toList == [49, 48, 48]) = true)
    (k0 : Hid (∀ w, Calls Try.prog 111 #[.string t0] w fun e w' => e = .returned (.tuple #[.string t1, .string t2, .bool b0]) ∧ Below w.heap.size w w'))
    (k1 : Hid (∀ w, Calls Try.prog 111 #[.string t2] w fun e w' => e = .returned (.tuple #[.string t3, .string t4, .bool b1]) ∧ Below w.heap.size w w'))
    (k2 : Hid (∀ w, Calls Try.prog 112 #[.string t1] w fun e w' => e = .returned (.tuple #[.int .i64 n2, .bool b2]) ∧ Below w.heap.size w w'))
    (k3 : Hid (∀ w, Calls Try.prog 112 #[.string t4] w fun e w' => e = .returned (.tuple #[.int .i64 n3, .bool b3]) ∧ Below w.heap.size w w'))
    (w : World) (hg : w.heap[g]? = some (.cells #[.int .i64 op, .int .i64 a, .int .i64 b, .int .i64 c, .string s0] 41 (0, 0))) :
    Calls Try.prog 141 #[.pointer (some ⟨g, 0, none⟩), .string t0] w fun e w' => e = .returned (.bool (b0 && b1 && b2 && b3 && decide (0 < n3))) ∧ Boxed w w' g #[.int .i64 op, .int .i64 n2, .int .i64 (-n3), .int .i64 c, .string s0] := by
  have HG := Lib.hid hg
  clear hg
  go_enter Try.func141, Try.ntmps141
  go_wp2_with fail
  refine (k0.out _).mono ?_
  rintro e w1 ⟨rfl, hb1⟩
  have HB1 := Lib.hid hb1
  clear hb1 k0
  go_wp2_with fail
  refine (k1.out _).mono ?_
  rintro e w2 ⟨rfl, hb2⟩
  have HB2 := Lib.hid (HB1.out.trans (hb2.mono HB1.out.size))
  clear hb2 HB1 k1
  go_wp2_with fail
  refine (k2.out _).mono ?_
  rintro e w3 ⟨rfl, hb3⟩
  have HB3 := Lib.hid (HB2.out.trans (hb3.mono HB2.out.size))
  clear hb3 HB2 k2
  go_wp2_with fail
  refine (k3.out _).mono ?_
  rintro e w4 ⟨rfl, hb4⟩
  have HB4 := Lib.hid (HB3.out.trans (hb4.mono HB3.out.size))
  clear hb4 HB3 k3
  have hblk := blk_lift HB4.out HG.out
  obtain ⟨hcell, hfz⟩ := block_cells hblk
  have HX := Lib.hid (Boxed.of HB4.out HG.out)
  clear HB4 HG hblk
  have c1 := hcell 1
  have f1 := hfz 1
  simp only [List.getElem?_toArray, List.getElem?_cons_succ, List.getElem?_cons_zero] at c1
  have c2 := hcell 2
  have f2 := hfz 2
  simp only [List.getElem?_toArray, List.getElem?_cons_succ, List.getElem?_cons_zero] at c2
  clear hcell hfz
  cases b0
  · (go_wp2; go_ret; exact ⟨rfl, (((HX.out.set 1 _).set 2 _).set 2 _)⟩)
  · skip
    cases b1
    · (go_wp2; go_ret; exact ⟨rfl, (((HX.out.set 1 _).set 2 _).set 2 _)⟩)
    · skip
      cases b2
      · (go_wp2; go_ret; exact ⟨rfl, (((HX.out.set 1 _).set 2 _).set 2 _)⟩)
      · skip
        cases b3
        · (go_wp2; go_ret; exact ⟨rfl, (((HX.out.set 1 _).set 2 _).set 2 _)⟩)
        · (go_wp2; go_ret; exact ⟨rfl, (((HX.out.set 1 _).set 2 _).set 2 _)⟩)
set_option maxHeartbeats 4000000 in
theorem get_jump3 (g : Nat) (op a b c : Int) (s0 t0 t1 t2 t3 t4 : ByteArray) (b0 b1 b2 b3 : Bool) (n2 n3 : Int) (_hn : 0 ≤ n3 ∧ n3 ≤ 1000000) (h0 : (t3.toList == [48]) = false) (h1 : (t3.toList == [49, 48, 48]) = false)
    (k0 : Hid (∀ w, Calls Try.prog 111 #[.string t0] w fun e w' => e = .returned (.tuple #[.string t1, .string t2, .bool b0]) ∧ Below w.heap.size w w'))
    (k1 : Hid (∀ w, Calls Try.prog 111 #[.string t2] w fun e w' => e = .returned (.tuple #[.string t3, .string t4, .bool b1]) ∧ Below w.heap.size w w'))
    (k2 : Hid (∀ w, Calls Try.prog 112 #[.string t1] w fun e w' => e = .returned (.tuple #[.int .i64 n2, .bool b2]) ∧ Below w.heap.size w w'))
    (k3 : Hid (∀ w, Calls Try.prog 112 #[.string t4] w fun e w' => e = .returned (.tuple #[.int .i64 n3, .bool b3]) ∧ Below w.heap.size w w'))
    (w : World) (hg : w.heap[g]? = some (.cells #[.int .i64 op, .int .i64 a, .int .i64 b, .int .i64 c, .string s0] 41 (0, 0))) :
    Calls Try.prog 141 #[.pointer (some ⟨g, 0, none⟩), .string t0] w fun e w' => e = .returned (.bool (b0 && b1 && b2 && b3 && false)) ∧ Boxed w w' g #[.int .i64 op, .int .i64 n2, .int .i64 n3, .int .i64 c, .string s0] := by
  have HG := Lib.hid hg
  clear hg
  go_enter Try.func141, Try.ntmps141
  go_wp2_with fail
  refine (k0.out _).mono ?_
  rintro e w1 ⟨rfl, hb1⟩
  have HB1 := Lib.hid hb1
  clear hb1 k0
  go_wp2_with fail
  refine (k1.out _).mono ?_
  rintro e w2 ⟨rfl, hb2⟩
  have HB2 := Lib.hid (HB1.out.trans (hb2.mono HB1.out.size))
  clear hb2 HB1 k1
  go_wp2_with fail
  refine (k2.out _).mono ?_
  rintro e w3 ⟨rfl, hb3⟩
  have HB3 := Lib.hid (HB2.out.trans (hb3.mono HB2.out.size))
  clear hb3 HB2 k2
  go_wp2_with fail
  refine (k3.out _).mono ?_
  rintro e w4 ⟨rfl, hb4⟩
  have HB4 := Lib.hid (HB3.out.trans (hb4.mono HB3.out.size))
  clear hb4 HB3 k3
  have hblk := blk_lift HB4.out HG.out
  obtain ⟨hcell, hfz⟩ := block_cells hblk
  have HX := Lib.hid (Boxed.of HB4.out HG.out)
  clear HB4 HG hblk
  have c1 := hcell 1
  have f1 := hfz 1
  simp only [List.getElem?_toArray, List.getElem?_cons_succ, List.getElem?_cons_zero] at c1
  have c2 := hcell 2
  have f2 := hfz 2
  simp only [List.getElem?_toArray, List.getElem?_cons_succ, List.getElem?_cons_zero] at c2
  clear hcell hfz
  cases b0
  · (go_wp2; go_ret; exact ⟨rfl, ((HX.out.set 1 _).set 2 _)⟩)
  · skip
    cases b1
    · (go_wp2; go_ret; exact ⟨rfl, ((HX.out.set 1 _).set 2 _)⟩)
    · skip
      cases b2
      · (go_wp2; go_ret; exact ⟨rfl, ((HX.out.set 1 _).set 2 _)⟩)
      · skip
        cases b3
        · (go_wp2; go_ret; exact ⟨rfl, ((HX.out.set 1 _).set 2 _)⟩)
        · (go_wp2; go_ret; exact ⟨rfl, ((HX.out.set 1 _).set 2 _)⟩)
theorem get_jump (g : Nat) (op a b c : Int) (s0 : ByteArray) (o : Option Tr) (ho : SmallO o) (w : World) (hg : w.heap[g]? = some (.cells #[.int .i64 op, .int .i64 a, .int .i64 b, .int .i64 c, .string s0] 41 (0, 0))) :
    Calls Try.prog 141 #[.pointer (some ⟨g, 0, none⟩), .string (OT o)] w fun e w' => e = .returned (.bool (pB o && pB (pT o) && vB (pH o) && vB (pT (pT o)) && jB (pH (pT o)) (vN (pT (pT o))))) ∧ Boxed w w' g #[.int .i64 op, .int .i64 (vN (pH o) : Nat), .int .i64 (jN (pH (pT o)) (vN (pT (pT o)))), .int .i64 c, .string s0] := by
  have k0 := Lib.hid (fun w => cpair_any o ho w)
  have k1 := Lib.hid (fun w => cpair_any (pT o) ho.tl w)
  have k2 := Lib.hid (fun w => cvalue_any (pH o) ho.hd w)
  have k3 := Lib.hid (fun w => cvalue_any (pT (pT o)) ho.tl.tl w)
  have hn := vN_le ho.tl.tl
  have h0 := sg0_eq (pH (pT o))
  have h1 := sg1_eq (pH (pT o))
  rcases sg_cases (pH (pT o)) (vN (pT (pT o))) with ⟨e0, e1, e2, e3⟩ | ⟨e0, e1, e2, e3⟩ | ⟨e0, e1, e2, e3⟩
  · rw [e0] at h0; rw [e1] at h1; rw [e2, e3]
    exact get_jump0 g op a b c s0 _ _ _ _ _ _ _ _ _ _ _ (by omega) h0 h1 k0 k1 k2 k3 w hg
  · rw [e0] at h0; rw [e1] at h1; rw [e2, e3]
    have he : decide (0 < vN (pT (pT o))) = decide ((0 : Int) < (vN (pT (pT o)) : Nat)) := by simp
    rw [he]
    exact get_jump1 g op a b c s0 _ _ _ _ _ _ _ _ _ _ _ (by omega) h0 h1 k0 k1 k2 k3 w hg
  · rw [e0] at h0; rw [e1] at h1; rw [e2, e3]
    exact get_jump3 g op a b c s0 _ _ _ _ _ _ _ _ _ _ _ (by omega) h0 h1 k0 k1 k2 k3 w hg
end Go.Proofs.Ytlaeljkjdfffjaa


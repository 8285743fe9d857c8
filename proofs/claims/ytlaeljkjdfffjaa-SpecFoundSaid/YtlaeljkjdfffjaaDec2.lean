/- code.fields: how the fields of an instruction are read. -/
import Derived.Test.YtlaeljkjdfffjaaDec1
import Derived.Test.YtlaeljkjdfffjaaMB2
import Derived.Test.YtlaeljkjdfffjaaLaw03f
namespace Go.Proofs.Ytlaeljkjdfffjaa
open Go.RowKit

/-- The box of an instruction holds these cells; all else is kept. -/
structure Boxed (A B : World) (g : Nat) (cs : Array Value) : Prop where
  box : B.heap[g]? = some (.cells cs 41 (0, 0))
  size : A.heap.size ≤ B.heap.size
  rest : ∀ k, k < A.heap.size → k ≠ g → B.heap[k]? = A.heap[k]?
  os : B.os = A.os
  tape : B.tape = A.tape
  output : B.output = A.output
theorem Boxed.of {A B : World} {g : Nat} {cs : Array Value} (hb : Below A.heap.size A B) (h : A.heap[g]? = some (.cells cs 41 (0, 0))) : Boxed A B g cs :=
  ⟨blk_lift hb h, hb.size, fun k hk _ => hb.block k hk, hb.os, hb.tape, hb.output⟩
theorem Boxed.set {A B : World} {g : Nat} {cs : Array Value} (h : Boxed A B g cs) (i : Nat) (v : Value) : Boxed A (B.setCell ⟨g, i, none⟩ v) g (cs.setIfInBounds i v) := by
  refine ⟨heap_setCell_same _ _ _ _ _ _ h.box, ?_, fun k hk hne => ?_, h.os, h.tape, h.output⟩
  · simp [World.setCell]; exact h.size
  · rw [Below.heap_setCell _ _ _ _ hne]; exact h.rest k hk hne
theorem Boxed.drew {A B : World} {g : Nat} {cs : Array Value} (h : Boxed A B g cs) : Boxed A B.drew g cs := ⟨h.box, h.size, h.rest, h.os, h.tape, h.output⟩

set_option maxHeartbeats 4000000 in
theorem get_regs (g : Nat) (op a b c : Int) (s0 : ByteArray) (o : Option Tr) (ho : SmallO o) (w : World) (hg : w.heap[g]? = some (.cells #[.int .i64 op, .int .i64 a, .int .i64 b, .int .i64 c, .string s0] 41 (0, 0))) :
    Calls Try.prog 161 #[.pointer (some ⟨g, 0, none⟩), .string (OT o)] w fun e w' => e = .returned (.bool (pB o && vB (pH o) && vB (pT o))) ∧ Boxed w w' g #[.int .i64 op, .int .i64 (vN (pH o) : Nat), .int .i64 (vN (pT o) : Nat), .int .i64 c, .string s0] := by
  have k0 := Lib.hid (fun w => cpair_any o ho w)
  have k1 := Lib.hid (fun w => cvalue_any (pH o) ho.hd w)
  have k2 := Lib.hid (fun w => cvalue_any (pT o) ho.tl w)
  generalize OT o = t0 at *
  generalize OT (pH o) = t1 at *
  generalize OT (pT o) = t2 at *
  generalize ((vN (pH o) : Nat) : Int) = n1 at *
  generalize ((vN (pT o) : Nat) : Int) = n2 at *
  generalize pB o = b0 at *
  generalize vB (pH o) = b1 at *
  generalize vB (pT o) = b2 at *
  clear ho
  have HG := Lib.hid hg
  clear hg
  go_enter Try.func161, Try.ntmps161
  go_wp2_with fail
  refine (k0.out _).mono ?_
  rintro e w1 ⟨rfl, hb1⟩
  have HB1 := Lib.hid hb1
  clear hb1 k0
  go_wp2_with fail
  refine (k1.out _).mono ?_
  rintro e w2 ⟨rfl, hb2⟩
  have HB2 := Lib.hid (HB1.out.trans (hb2.mono HB1.out.size))
  clear hb2 HB1 k1
  go_wp2_with fail
  refine (k2.out _).mono ?_
  rintro e w3 ⟨rfl, hb3⟩
  have HB3 := Lib.hid (HB2.out.trans (hb3.mono HB2.out.size))
  clear hb3 HB2 k2
  have hblk := blk_lift HB3.out HG.out
  obtain ⟨hcell, hfz⟩ := block_cells hblk
  have HX := Lib.hid (Boxed.of HB3.out HG.out)
  clear HB3 HG hblk
  have c1 := hcell 1
  have f1 := hfz 1
  simp only [List.getElem?_toArray, List.getElem?_cons_succ, List.getElem?_cons_zero] at c1
  have c2 := hcell 2
  have f2 := hfz 2
  simp only [List.getElem?_toArray, List.getElem?_cons_succ, List.getElem?_cons_zero] at c2
  clear hcell hfz
  cases b0 <;> cases b1 <;> cases b2
  all_goals
    go_wp2
    go_ret
    exact ⟨rfl, ((HX.out.set 1 _).set 2 _)⟩
set_option maxHeartbeats 4000000 in
theorem get_set (g : Nat) (op a b c : Int) (s0 : ByteArray) (o : Option Tr) (ho : SmallO o) (w : World) (hg : w.heap[g]? = some (.cells #[.int .i64 op, .int .i64 a, .int .i64 b, .int .i64 c, .string s0] 41 (0, 0))) :
    Calls Try.prog 137 #[.pointer (some ⟨g, 0, none⟩), .string (OT o)] w fun e w' => e = .returned (.bool (pB o && vB (pH o))) ∧ Boxed w w' g #[.int .i64 op, .int .i64 (vN (pH o) : Nat), .int .i64 b, .int .i64 c, .string (OT (pT o))] := by
  have k0 := Lib.hid (fun w => cpair_any o ho w)
  have k1 := Lib.hid (fun w => cvalue_any (pH o) ho.hd w)
  generalize OT o = t0 at *
  generalize OT (pH o) = t1 at *
  generalize OT (pT o) = t2 at *
  generalize ((vN (pH o) : Nat) : Int) = n1 at *
  generalize pB o = b0 at *
  generalize vB (pH o) = b1 at *
  clear ho
  have HG := Lib.hid hg
  clear hg
  go_enter Try.func137, Try.ntmps137
  go_wp2_with fail
  refine (k0.out _).mono ?_
  rintro e w1 ⟨rfl, hb1⟩
  have HB1 := Lib.hid hb1
  clear hb1 k0
  go_wp2_with fail
  refine (k1.out _).mono ?_
  rintro e w2 ⟨rfl, hb2⟩
  have HB2 := Lib.hid (HB1.out.trans (hb2.mono HB1.out.size))
  clear hb2 HB1 k1
  have hblk := blk_lift HB2.out HG.out
  obtain ⟨hcell, hfz⟩ := block_cells hblk
  have HX := Lib.hid (Boxed.of HB2.out HG.out)
  clear HB2 HG hblk
  have c1 := hcell 1
  have f1 := hfz 1
  simp only [List.getElem?_toArray, List.getElem?_cons_succ, List.getElem?_cons_zero] at c1
  have c4 := hcell 4
  have f4 := hfz 4
  simp only [List.getElem?_toArray, List.getElem?_cons_succ, List.getElem?_cons_zero] at c4
  clear hcell hfz
  cases b0 <;> cases b1
  all_goals
    go_wp2
    go_ret
    exact ⟨rfl, ((HX.out.set 1 _).set 4 _)⟩
set_option maxHeartbeats 4000000 in
theorem get_cons (g : Nat) (op a b c : Int) (s0 : ByteArray) (o : Option Tr) (ho : SmallO o) (w : World) (hg : w.heap[g]? = some (.cells #[.int .i64 op, .int .i64 a, .int .i64 b, .int .i64 c, .string s0] 41 (0, 0))) :
    Calls Try.prog 139 #[.pointer (some ⟨g, 0, none⟩), .string (OT o)] w fun e w' => e = .returned (.bool (pB o && pB (pT o) && vB (pH o) && vB (pH (pT o)) && vB (pT (pT o)))) ∧ Boxed w w' g #[.int .i64 op, .int .i64 (vN (pH o) : Nat), .int .i64 (vN (pH (pT o)) : Nat), .int .i64 (vN (pT (pT o)) : Nat), .string s0] := by
  have k0 := Lib.hid (fun w => cpair_any o ho w)
  have k1 := Lib.hid (fun w => cpair_any (pT o) ho.tl w)
  have k2 := Lib.hid (fun w => cvalue_any (pH o) ho.hd w)
  have k3 := Lib.hid (fun w => cvalue_any (pH (pT o)) ho.tl.hd w)
  have k4 := Lib.hid (fun w => cvalue_any (pT (pT o)) ho.tl.tl w)
  generalize OT o = t0 at *
  generalize OT (pH o) = t1 at *
  generalize OT (pT o) = t2 at *
  generalize OT (pH (pT o)) = t3 at *
  generalize OT (pT (pT o)) = t4 at *
  generalize ((vN (pH o) : Nat) : Int) = n2 at *
  generalize ((vN (pH (pT o)) : Nat) : Int) = n3 at *
  generalize ((vN (pT (pT o)) : Nat) : Int) = n4 at *
  generalize pB o = b0 at *
  generalize pB (pT o) = b1 at *
  generalize vB (pH o) = b2 at *
  generalize vB (pH (pT o)) = b3 at *
  generalize vB (pT (pT o)) = b4 at *
  clear ho
  have HG := Lib.hid hg
  clear hg
  go_enter Try.func139, Try.ntmps139
  go_wp2_with fail
  refine (k0.out _).mono ?_
  rintro e w1 ⟨rfl, hb1⟩
  have HB1 := Lib.hid hb1
  clear hb1 k0
  go_wp2_with fail
  refine (k1.out _).mono ?_
  rintro e w2 ⟨rfl, hb2⟩
  have HB2 := Lib.hid (HB1.out.trans (hb2.mono HB1.out.size))
  clear hb2 HB1 k1
  go_wp2_with fail
  refine (k2.out _).mono ?_
  rintro e w3 ⟨rfl, hb3⟩
  have HB3 := Lib.hid (HB2.out.trans (hb3.mono HB2.out.size))
  clear hb3 HB2 k2
  go_wp2_with fail
  refine (k3.out _).mono ?_
  rintro e w4 ⟨rfl, hb4⟩
  have HB4 := Lib.hid (HB3.out.trans (hb4.mono HB3.out.size))
  clear hb4 HB3 k3
  go_wp2_with fail
  refine (k4.out _).mono ?_
  rintro e w5 ⟨rfl, hb5⟩
  have HB5 := Lib.hid (HB4.out.trans (hb5.mono HB4.out.size))
  clear hb5 HB4 k4
  have hblk := blk_lift HB5.out HG.out
  obtain ⟨hcell, hfz⟩ := block_cells hblk
  have HX := Lib.hid (Boxed.of HB5.out HG.out)
  clear HB5 HG hblk
  have c1 := hcell 1
  have f1 := hfz 1
  simp only [List.getElem?_toArray, List.getElem?_cons_succ, List.getElem?_cons_zero] at c1
  have c2 := hcell 2
  have f2 := hfz 2
  simp only [List.getElem?_toArray, List.getElem?_cons_succ, List.getElem?_cons_zero] at c2
  have c3 := hcell 3
  have f3 := hfz 3
  simp only [List.getElem?_toArray, List.getElem?_cons_succ, List.getElem?_cons_zero] at c3
  clear hcell hfz
  cases b0 <;> cases b1 <;> cases b2 <;> cases b3 <;> cases b4
  all_goals
    go_wp2
    go_ret
    exact ⟨rfl, (((HX.out.set 1 _).set 2 _).set 3 _)⟩
end Go.Proofs.Ytlaeljkjdfffjaa


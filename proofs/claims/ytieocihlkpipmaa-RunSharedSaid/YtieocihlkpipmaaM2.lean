/- The walk of tree.List. The walks of narcissusref02.Register, Trees, Twin, Same and of code.reg. The walks of run.newMachine and (*machine).ended. The walks of (*machine).ended and (*machine).step. The walk of (*machine).step: cons and jump. The walk of (*machine).step: jump; and all. (*machine).step, put together. Plain: runs of programs, to their end or as far as the fuel goes. A range over a function whose iterator writes memory of its own between two rounds. The walk of the iterator of a run's states. The walk of (*machine).state. The walks of narcissusref02.Right and Valid. The walks of narcissusref02.Valid, code.reg, code.right and code.Valid. The walks of code.reg and code.right. The walk of code.right. The walk of code.Valid. The walks of run.begin and run.First. The walk of run.First. -/
import Derived.Test.YtieocihlkpipmaaM1
import Derived.Laws.StructEq
import Derived.RangeFuncFrom
import Derived.RangeFuncNested
import Derived.RangeFuncBound
import Derived.RangeFuncCalls
import Derived.RangeFuncLeaves
import Derived.Shelf.Abstract
import Derived.Shelf.RegionOpen
import Derived.WalkKit
import Derived.OwnWalkIn
import Derived.TacticsInMore
import Derived.LoopNIn
import Derived.LoopIn
import Derived.Deep.MidRow
namespace Go.Proofs.Ytieocihlkpipmaa
open Go.RowKit

theorem ret_se2 {a b : ByteArray} {c d : Int} (h : a = b) (h' : c = d) : Ending.returned (.tuple #[.string a, .int .i64 c]) = .returned (.tuple #[.string b, .int .i64 d]) := by rw [h, h']

theorem take_snoc' {α : Type} (l : List α) (k : Nat) (s : α) (h : l[k]? = some s) : l.take (k + 1) = l.take k ++ [s] := by
  rw [List.take_add_one, h]; rfl
theorem allTree_bad {l : List ByteArray} {k : Nat} {s : ByteArray} (h : l[k]? = some s) (hb : isTree s = false) : listE l = 1 ∧ listS l = ⟨#[]⟩ := by
  have : allTree l = false := by
    rw [Bool.eq_false_iff]; intro ha
    have := List.all_eq_true.1 ha s (List.mem_of_getElem? h)
    rw [hb] at this; cases this
  exact ⟨by unfold listE; rw [this]; rfl, by unfold listS; rw [this]; rfl⟩
/-- The bytes that are written for some strings. -/
def lwr (l : List ByteArray) : List UInt8 := (l.map fun s : ByteArray => (49 : UInt8) :: s.data.toList).flatten
theorem lwr_snoc (l : List ByteArray) (s : ByteArray) : lwr (l ++ [s]) = lwr l ++ (49 :: s.data.toList) := by simp [lwr]
theorem lwr_length (l : List ByteArray) (h : allTree l = true) : (lwr l).length + 1 = lcount l := by
  obtain ⟨ts, rfl, hts⟩ := allTree_get h
  rw [lcount_TS ts hts, size_ofList, ← lenc_length]
  simp [lwr, lenc, Function.comp_def, TS_list]; omega
theorem lcount_take (l : List ByteArray) (k : Nat) : lcount (l.take k) ≤ lcount l := by
  conv => rhs; rw [← List.take_append_drop k l]
  simp only [lcount, List.map_append, List.sum_append]; omega
theorem allTree_take {l : List ByteArray} (h : allTree l = true) (k : Nat) : allTree (l.take k) = true := by
  unfold allTree at *; rw [List.all_eq_true] at *; exact fun x hx => h x (List.mem_of_mem_take hx)

set_option maxHeartbeats 2000000 in
theorem list_any (v : Value) (l : List ByteArray) (w : World) (hl : StrRow w w.heap.size v l) (hn : l.length ≤ 4000000000) :
    Calls Try.prog 34 #[v] w fun e w' => e = .returned (.tuple #[.string (listS l), .int .i64 (listE l)]) ∧ Below w.heap.size w w' := by
  obtain ⟨ao, cap, rfl⟩ := hl.len
  obtain ⟨n, hn'⟩ : ∃ n, l.length = n := ⟨_, rfl⟩
  rw [hn'] at hn hl ⊢
  have HN := Lib.hid hn'; clear hn'
  obtain ⟨r1, hr1⟩ : ∃ r, listS l = r := ⟨_, rfl⟩
  obtain ⟨r2, hr2⟩ : ∃ r, listE l = r := ⟨_, rfl⟩
  rw [hr1, hr2]
  have H1 := Lib.hid hr1; clear hr1
  have H2 := Lib.hid hr2; clear hr2
  go_enter Try.func34, Try.ntmps34
  go_wp2
  go_loopg [4, 12] n (fun g c i wr => ∃ k m : Nat, k ≤ n ∧ g = n - k ∧ i = .int .i64 k ∧ c = .int .i64 m ∧ m ≤ 1 + k * 2000001 ∧ Aside (m = lcount (l.take k)) ∧ Aside (allTree (l.take k) = true) ∧ Below w.heap.size w wr)
  case atStart => exact ⟨0, 1, Nat.zero_le _, rfl, rfl, rfl, by omega, rfl, rfl, Below.refl _ _⟩
  case round =>
    obtain ⟨k, m, hk, hg, rfl, rfl, hm, hc, ha, hb⟩ := hrel
    have HG := Lib.hid hg; clear hg
    by_cases hlt : k < n
    · obtain ⟨s, hs⟩ : ∃ s, l[k]? = some s := ⟨_, List.getElem?_eq_getElem (by rw [HN.out]; exact hlt)⟩
      have hlr := hl.below hb
      obtain ⟨g, off, rfl, hg, hcell⟩ := hlr.get hs
      have hz := hlr.size hs
      have HS := Lib.hid hs; clear hs
      have hmI : (m : Int) ≤ 1 + k * 2000001 := by omega
      cases htr : isTree s with
      | true =>
        have hv := fun w => treeValid_any s hz w
        rw [htr] at hv
        have hms : min (s.size : Int) 2000000 = ((min s.size 2000000 : Nat) : Int) := by omega
        have hm2 : min s.size 2000000 ≤ 2000000 := by omega
        have HT := Lib.hid htr; clear htr
        go_wp2_with (go_at_call 44; refine (hv _).mono ?_; rintro e w' ⟨rfl, hb1⟩)
        go_roundg (n - (k + 1))
        case measure => rw [HG.out]; omega
        case rel =>
          refine ⟨k + 1, m + (min s.size 2000000 + 1), by omega, rfl, by go_num, by go_num, by omega, ?_, ?_, hb.trans (hb1.mono hb.size)⟩
          · show _ = _; rw [take_snoc' _ _ _ HS.out, lcount_snoc, ← hc.out]
          · show _ = _; rw [take_snoc' _ _ _ HS.out, allTree, List.all_append]; simp only [List.all_cons, HT.out, List.all_nil, Bool.and_true]; exact ha.out
      | false =>
        have hv := fun w => treeValid_any s hz w
        rw [htr] at hv
        have hbad := Lib.hid (allTree_bad HS.out htr)
        clear htr
        go_wp2_with (go_at_call 44; refine (hv _).mono ?_; rintro e w' ⟨rfl, hb1⟩)
        go_ret2
        refine ⟨ret_se2 ?_ ?_, hb.trans (hb1.mono hb.size)⟩
        · rw [← H1.out, hbad.out.2]
        · rw [← H2.out, hbad.out.1]
    · have hkn : k = n := by omega
      have hta : l.take k = l := List.take_of_length_le (by rw [HN.out]; omega)
      have hc' := hc.out
      have ha' := ha.out
      rw [hta] at hc' ha'
      have HC := Lib.hid hc'; have HA := Lib.hid ha'
      clear hc ha hc' ha' hta hkn
      by_cases hbig : (2000000 : Int) < m
      · go_wp2
        go_ret2
        refine ⟨ret_se2 ?_ ?_, hb⟩
        · rw [← H1.out]; unfold listS; rw [HA.out, ← HC.out, decide_eq_false (by omega)]; rfl
        · rw [← H2.out]; unfold listE; rw [HA.out, ← HC.out, if_pos rfl, if_neg (by omega)]
      · go_wp2
        have hB0 : Lib.IsBuilder 118 5 wr.heap.size wr.heap.size (Lib.byteCells []) (wr.alloc (.cells #[.pointer none, .slice none 0 0] 118)) := Lib.fresh_isBuilder _ _ wr
        have hb0 : Below w.heap.size w (wr.alloc (.cells #[.pointer none, .slice none 0 0] 118)) := hb.alloc hb.size _
        have hs0 : wr.heap.size < (wr.alloc (.cells #[.pointer none, .slice none 0 0] 118)).heap.size := by simp
        have hwb := hb.size
        clear hb
        generalize wr.alloc (.cells #[.pointer none, .slice none 0 0] 118) = w2 at *
        generalize wr.heap.size = b at *
        have hm2 : lcount l ≤ 2000000 := by rw [← HC.out]; omega
        have HM := Lib.hid hm2; clear hm2
        go_loopg [30] n (fun g i wr => ∃ k : Nat, k ≤ n ∧ g = n - k ∧ i = .int .i64 k ∧ Lib.IsBuilder 118 5 b b (Lib.byteCells (lwr (l.take k))) wr ∧ Below w.heap.size w wr ∧ b < wr.heap.size)
        case atStart => exact ⟨0, Nat.zero_le _, rfl, rfl, hB0, hb0, hs0⟩
        case round =>
          clear hB0 hb0 hs0
          obtain ⟨k', hk', hg', rfl, hB, hb, hsb⟩ := hrel
          have HG' := Lib.hid hg'; clear hg'
          have hlen : (lwr (l.take k')).length + 1 ≤ 2000000 := by
            rw [lwr_length _ (allTree_take HA.out k')]; exact Nat.le_trans (lcount_take l k') HM.out
          by_cases hlt' : k' < n
          · obtain ⟨s, hs⟩ : ∃ s, l[k']? = some s := ⟨_, List.getElem?_eq_getElem (by rw [HN.out]; exact hlt')⟩
            have hlr := hl.below hb
            obtain ⟨g, off, rfl, hg, hcell⟩ := hlr.get hs
            have hlen2 : (lwr (l.take (k' + 1))).length + 1 ≤ 2000000 := by
              rw [lwr_length _ (allTree_take HA.out (k' + 1))]; exact Nat.le_trans (lcount_take l (k' + 1)) HM.out
            have hsn := Lib.hid (take_snoc' l k' s hs)
            rw [take_snoc' l k' s hs, lwr_snoc] at hlen2
            have hss : s.data.toList.length = s.size := by simp
            simp only [List.length_append, List.length_cons, hss] at hlen2
            clear hs hss
            have hc2 : ∀ wx : World, Below w.heap.size w wx → wx.cell? ⟨g, off + k', none⟩ = some (.string s) := fun wx hx => by
              have h1 := hb.cell (p := ⟨g, off + k', none⟩) hg
              have h2 := hx.cell (p := ⟨g, off + k', none⟩) hg
              rw [h2, ← h1]; exact hcell
            clear hc2
            go_wp2_with fail
            refine (Try.Builder_WriteByte b b _ 49 _ hB (by rw [Lib.byteCells_length]; omega) (by omega)).mono ?_
            rintro e w3 ⟨rfl, hB3, hb3⟩
            have hs3 := hb3.size
            go_wp2_with fail
            refine (Try.Builder_WriteString b b _ s _ (.inr hB3) (by rw [List.length_append, Lib.byteCells_length]; simp; omega) (by omega)).mono ?_
            rintro e w4 ⟨rfl, hB4, hb4⟩
            have hs4 := hb4.size
            go_wp2
            go_roundg (n - (k' + 1))
            case measure => rw [HG'.out]; omega
            case rel =>
              refine ⟨k' + 1, by omega, rfl, by go_num, ?_, (hb.trans (hb3.mono hwb)).trans (hb4.mono hwb), by omega⟩
              refine .inr ?_
              have : Lib.byteCells (lwr (l.take (k' + 1))) = Lib.byteCells (lwr (l.take k')) ++ [.int .u8 49] ++ Lib.strCells s := by
                rw [hsn.out, lwr_snoc]; simp [Lib.byteCells, Lib.strCells]
              rw [this]; exact hB4
          · have hta : l.take k' = l := List.take_of_length_le (by rw [HN.out]; omega)
            rw [hta] at hB hlen
            clear hta
            go_wp2_with fail
            refine (Try.Builder_WriteByte b b _ 48 _ hB (by rw [Lib.byteCells_length]; omega) (by omega)).mono ?_
            rintro e w3 ⟨rfl, hB3, hb3⟩
            have hs3 := hb3.size
            have hB3' : Lib.IsBuilder 118 5 b b (Lib.byteCells (lwr l ++ [48])) w3 := by
              refine .inr ?_
              have : Lib.byteCells (lwr l ++ [48]) = Lib.byteCells (lwr l) ++ [.int .u8 48] := by simp [Lib.byteCells]
              rw [this]; exact hB3
            go_wp2_with fail
            refine (Try.Builder_String_any b b _ _ hB3' (by omega)).mono ?_
            rintro e w4 ⟨rfl, hb4⟩
            go_wp2
            go_ret2
            refine ⟨ret_se2 ?_ ?_, (hb.trans (hb3.mono hwb)).trans (hb4.mono hwb)⟩
            · rw [← H1.out]; unfold listS; rw [HA.out, decide_eq_true HM.out]; rfl
            · rw [← H2.out]; unfold listE; rw [HA.out, if_pos rfl, if_pos HM.out]

end Go.Proofs.Ytieocihlkpipmaa

namespace Go.Proofs.Ytieocihlkpipmaa
open Go.RowKit

theorem register_any (n : Int) (w : World) :
    Calls Try.prog 95 #[.int .i64 n] w fun e w' => e = .returned (.bool (regB n)) ∧ w = w' := by
  unfold regB
  by_cases h : 0 ≤ n
  · rw [decide_eq_true h]
    go_enter Try.func95, Try.ntmps95
    go_wp2
    go_ret
    exact ⟨rfl, rfl⟩
  · rw [decide_eq_false h]
    go_enter Try.func95, Try.ntmps95
    go_wp2
    go_ret
    exact ⟨rfl, rfl⟩

set_option maxHeartbeats 1000000 in
theorem trees_any (v : Value) (l : List Ins) (w : World) (B : Nat) (hl : InsRow w B v l) (hn : l.length ≤ 4000) :
    Calls Try.prog 72 #[v] w fun e w' => e = .returned (.int .i64 (trees l)) ∧ w = w' := by
  obtain ⟨ao, cap, rfl⟩ := hl.len
  obtain ⟨n, hn'⟩ : ∃ n, l.length = n := ⟨_, rfl⟩
  rw [hn'] at hn hl ⊢
  have HN := Lib.hid hn'; clear hn'
  go_enter Try.func72, Try.ntmps72
  go_wp2
  go_loopg [3, 4] n (fun g s i wr => ∃ k m : Nat, k ≤ n ∧ g = n - k ∧ i = .int .i64 k ∧ s = .int .i64 m ∧ m ≤ k * 140737488355328 ∧ Aside (m = trees (l.take k)) ∧ w = wr)
  case atStart => exact ⟨0, 0, Nat.zero_le _, rfl, rfl, rfl, by omega, rfl, rfl⟩
  case round =>
    obtain ⟨k, m, hk, hg, rfl, rfl, hm, hv, rfl⟩ := hrel
    have HG := Lib.hid hg; clear hg
    by_cases hlt : k < n
    · obtain ⟨x, hx⟩ : ∃ s, l[k]? = some s := ⟨_, List.getElem?_eq_getElem (by rw [HN.out]; exact hlt)⟩
      obtain ⟨g, off, rfl, hg, c0, c1, c2, c3, c4⟩ := hl.get hx
      have hz := (hl.wf hx).2.2.2.2
      have HX := Lib.hid hx; clear hx
      have hm2 : (m : Int) ≤ 4000 * 140737488355328 := by omega
      clear c0 c1 c2 c3
      go_wp2
      go_roundg (n - (k + 1))
      case measure => rw [HG.out]; omega
      case rel => exact ⟨k + 1, m + x.tree.size, by omega, rfl, by go_num, by go_num, by omega, (by show _ = _; rw [take_snoc' _ _ _ HX.out, trees_snoc, ← hv.out]), rfl⟩
    · go_wp2
      go_ret
      exact ⟨ret_i (by rw [hv.out, List.take_of_length_le (by rw [HN.out]; omega)]), rfl⟩

/-- A result that is a new program. -/
def ProgOut (w : World) (l : List Ins) (v : Value) (w' : World) : Prop := InsRow w' w'.heap.size v l ∧ Below w.heap.size w w'

set_option maxHeartbeats 1000000 in
theorem twin_any (v : Value) (l : List Ins) (w : World) (hl : InsRow w w.heap.size v l) :
    Calls Try.prog 20 #[v] w fun e w' => ∃ v', e = .returned v' ∧ ProgOut w l v' w' := by
  have hn := hl.2.1
  have hwf := hl.1
  have hs := hl.src
  obtain ⟨n, hn'⟩ : ∃ n, l.length = n := ⟨_, rfl⟩
  rw [hn'] at hn hs
  have HN := Lib.hid hn'; clear hn'
  have HW := Lib.hid hwf; clear hwf
  obtain ⟨ao, cap, rfl⟩ := hl.len
  rw [HN.out] at hl hs ⊢
  have hown : (w.alloc (.cells #[] 73)).ownsRow w.heap.size 73 5 (.slice (some ⟨w.heap.size, 0, none⟩) 0 0) 0 [] := World.ownsRow_lit w #[] 0 (Nat.le_refl _) (by decide) rfl
  have hs2 : Src (w.alloc (.cells #[] 73)) (.slice ao n cap) n 5 (inscells l) := by
    have := (hl.below ((Below.refl _ w).alloc (Nat.le_refl _) (.cells #[] 73))).src
    rwa [HN.out] at this
  have hb : Below w.heap.size w (w.alloc (.cells #[] 73)) := (Below.refl _ _).alloc (Nat.le_refl _) _
  go_enter Try.func20, Try.ntmps20
  go_wp2_with (at_builtin; refine app_src el_ins (vx := .slice ao n cap) rfl _ _ rfl rfl hown rfl hs2 (inscells_one l) ?c2 ?c3 (by simp) hb (Nat.le_refl _) ?_)
  case c2 => omega
  case c3 => unfold maxLen; omega
  intro v' w' hown' hb' hg
  have hrow : InsRow w' w'.heap.size v' l := InsRow.of_own (by simpa using hown') HW.out (by rw [HN.out]; exact hn)
  obtain ⟨a2, c2, rfl⟩ := own_len hown'
  clear hown hs hs2 hb hown' hg
  go_wp2
  refine bodyPost_ret (v := .slice a2 n c2) (by simp [results, Try.results20, go_sem]) rfl ?_
  exact ⟨_, rfl, hrow, hb'⟩

section
variable {P : Program} {d : Nat} {xs ys : Array Value} {f : Field} {fs : List Field} {a b : Value} {r s : Bool} {w : World}
theorem eqf_last (hn : (f.name == "_") = false) (ha : (part f.type xs f.offset).run P w = .ok a w) (hb : (part f.type ys f.offset).run P w = .ok b w) (he : (Op.equalIn d f.type a b).run P w = .ok r w) : (Op.eqFields d xs ys [f]).run P w = .ok r w := by
  have hn' : f.name ≠ "_" := by simpa using hn
  simp only [Op.eqFields, if_pos hn', Sem.run_bind, ha, hb, he, Result.andThen_ok]
  cases r <;> simp
theorem eqf_cons (hn : (f.name == "_") = false) (ha : (part f.type xs f.offset).run P w = .ok a w) (hb : (part f.type ys f.offset).run P w = .ok b w) (he : (Op.equalIn d f.type a b).run P w = .ok r w) (hr : (Op.eqFields d xs ys fs).run P w = .ok s w) : (Op.eqFields d xs ys (f :: fs)).run P w = .ok (r && s) w := by
  have hn' : f.name ≠ "_" := by simpa using hn
  rw [Op.eqFields]
  simp only [if_pos hn', Sem.run_bind, ha, hb, he, Result.andThen_ok]
  cases r
  · simp
  · simpa using hr
end
theorem ins_fields : Try.prog.underlying 73 = some (.struct (Try.prog.fieldsOf 73)) := by kernel_rfl
theorem ins_held : Try.prog.stoodInHeld 73 = false := by kernel_rfl
theorem ins_guard : Try.prog.eqGuardType Try.prog.depth 73 = false := by kernel_rfl
/-- Two instructions, field by field. -/
def insB (xo xa xb xc : Int) (xt : ByteArray) (yo ya yb yc : Int) (yt : ByteArray) : Bool := xo == yo && (xa == ya && (xb == yb && (xc == yc && (xt.toList == yt.toList))))
theorem insB_iff (x y : Ins) : insB x.op x.a x.b x.c x.tree y.op y.a y.b y.c y.tree = true ↔ x = y := by
  obtain ⟨xo, xa, xb, xc, xt⟩ := x
  obtain ⟨yo, ya, yb, yc, yt⟩ := y
  unfold insB
  simp only [Bool.and_eq_true, beq_iff_eq, Ins.mk.injEq, Lib.toList_data]
  constructor
  · rintro ⟨h1, h2, h3, h4, h5⟩; exact ⟨h1, h2, h3, h4, ba_ext h5⟩
  · rintro ⟨h1, h2, h3, h4, h5⟩; exact ⟨h1, h2, h3, h4, by rw [h5]⟩
theorem run_ins_neq (xo xa xb xc : Int) (xt : ByteArray) (yo ya yb yc : Int) (yt : ByteArray) (w : World) :
    (binOp .neq 73 (.agg #[.int .i64 xo, .int .i64 xa, .int .i64 xb, .int .i64 xc, .string xt]) (.agg #[.int .i64 yo, .int .i64 ya, .int .i64 yb, .int .i64 yc, .string yt])).run Try.prog w = .ok (.bool (!insB xo xa xb xc xt yo ya yb yc yt)) w := by
  rw [run_neq_struct, run_equalIn_struct _ _ _ _ _ ins_fields ins_held]
  obtain ⟨f0, f1, f2, f3, f4, hf, n0, n1, n2, n3, n4, o0, o1, o2, o3, o4, t0, t1, t2, t3, t4⟩ : ∃ f0 f1 f2 f3 f4 : Field, (Try.prog.fieldsOf 73).toList = [f0, f1, f2, f3, f4] ∧ (f0.name == "_") = false ∧ (f1.name == "_") = false ∧ (f2.name == "_") = false ∧ (f3.name == "_") = false ∧ (f4.name == "_") = false ∧
      f0.offset = 0 ∧ f1.offset = 1 ∧ f2.offset = 2 ∧ f3.offset = 3 ∧ f4.offset = 4 ∧ f0.type = 3 ∧ f1.type = 3 ∧ f2.type = 3 ∧ f3.type = 3 ∧ f4.type = 9 :=
    ⟨(Try.prog.fieldsOf 73)[0]!, (Try.prog.fieldsOf 73)[1]!, (Try.prog.fieldsOf 73)[2]!, (Try.prog.fieldsOf 73)[3]!, (Try.prog.fieldsOf 73)[4]!, by kernel_rfl, by kernel_rfl, by kernel_rfl, by kernel_rfl, by kernel_rfl, by kernel_rfl, by kernel_rfl, by kernel_rfl, by kernel_rfl, by kernel_rfl, by kernel_rfl, by kernel_rfl, by kernel_rfl, by kernel_rfl, by kernel_rfl, by kernel_rfl⟩
  rw [hf]
  have h := eqf_cons (P := Try.prog) (d := 9999) (w := w) (xs := #[.int .i64 xo, .int .i64 xa, .int .i64 xb, .int .i64 xc, .string xt]) (ys := #[.int .i64 yo, .int .i64 ya, .int .i64 yb, .int .i64 yc, .string yt]) (a := .int .i64 xo) (b := .int .i64 yo) n0 (by rw [t0, o0]; kernel_rfl) (by rw [t0, o0]; kernel_rfl) (by rw [t0]; exact run_equalIn_int w _ _ .i64 .i64 _ _ Try.underlying3)
    (eqf_cons (a := .int .i64 xa) (b := .int .i64 ya) n1 (by rw [t1, o1]; kernel_rfl) (by rw [t1, o1]; kernel_rfl) (by rw [t1]; exact run_equalIn_int w _ _ .i64 .i64 _ _ Try.underlying3)
    (eqf_cons (a := .int .i64 xb) (b := .int .i64 yb) n2 (by rw [t2, o2]; kernel_rfl) (by rw [t2, o2]; kernel_rfl) (by rw [t2]; exact run_equalIn_int w _ _ .i64 .i64 _ _ Try.underlying3)
    (eqf_cons (a := .int .i64 xc) (b := .int .i64 yc) n3 (by rw [t3, o3]; kernel_rfl) (by rw [t3, o3]; kernel_rfl) (by rw [t3]; exact run_equalIn_int w _ _ .i64 .i64 _ _ Try.underlying3)
    (eqf_last (a := .string xt) (b := .string yt) n4 (by rw [t4, o4]; kernel_rfl) (by rw [t4, o4]; kernel_rfl) (by rw [t4]; exact run_equalIn_string w _ _ _ _ Try.underlying9)))))
  rw [h]; rfl

/-- Two programs are equal. -/
def sameP (a b : List Ins) : Bool := decide (a = b)
def insEq (x y : Ins) : Bool := decide (x = y)
set_option maxHeartbeats 2000000 in
theorem sameP_any (v1 v2 : Value) (l1 l2 : List Ins) (w : World) (B : Nat) (hl1 : InsRow w B v1 l1) (hl2 : InsRow w B v2 l2) :
    Calls Try.prog 22 #[v1, v2] w fun e w' => e = .returned (.bool (sameP l1 l2)) ∧ ∃ nq, w' = w.drewN nq := by
  obtain ⟨ao1, cap1, rfl⟩ := hl1.len
  obtain ⟨ao2, cap2, rfl⟩ := hl2.len
  obtain ⟨n1, hn1⟩ : ∃ n, l1.length = n := ⟨_, rfl⟩
  obtain ⟨n2, hn2⟩ : ∃ n, l2.length = n := ⟨_, rfl⟩
  have hb1 := hl1.2.1
  have hb2 := hl2.2.1
  rw [hn1] at hl1 hb1 ⊢
  rw [hn2] at hl2 hb2 ⊢
  have HN1 := Lib.hid hn1; clear hn1
  have HN2 := Lib.hid hn2; clear hn2
  obtain ⟨r, hr⟩ : ∃ r, sameP l1 l2 = r := ⟨_, rfl⟩
  rw [hr]
  have HR := Lib.hid hr; clear hr
  by_cases hne : n1 = n2
  · subst hne
    go_enter Try.func22, Try.ntmps22
    go_wp2
    go_loopg [5] n1 (fun g i wr => ∃ k q : Nat, k ≤ n1 ∧ g = n1 - k ∧ i = .int .i64 k ∧ Aside (l1.take k = l2.take k) ∧ wr = w.drewN q)
    case atStart => exact ⟨0, 0, Nat.zero_le _, rfl, rfl, rfl, rfl⟩
    case round =>
      obtain ⟨k, q, hk, hg, rfl, hv, rfl⟩ := hrel
      have HG := Lib.hid hg; clear hg
      by_cases hlt : k < n1
      · obtain ⟨x, hs⟩ : ∃ s, l1[k]? = some s := ⟨_, List.getElem?_eq_getElem (by rw [HN1.out]; exact hlt)⟩
        obtain ⟨y, hu⟩ : ∃ s, l2[k]? = some s := ⟨_, List.getElem?_eq_getElem (by rw [HN2.out]; exact hlt)⟩
        obtain ⟨g1, off1, rfl, hg1, p0, p1, p2, p3, p4⟩ := hl1.get hs
        obtain ⟨g2, off2, rfl, hg2, q0, q1, q2, q3, q4⟩ := hl2.get hu
        have hi0 : (0 : Int) ≤ (k : Int) := Int.natCast_nonneg _
        have hi1 : (k : Int) < (n1 : Int) := by omega
        have HS := Lib.hid hs; have HU := Lib.hid hu
        clear hs hu
        have hq := fun w => run_ins_neq x.op x.a x.b x.c x.tree y.op y.a y.b y.c y.tree w
        have hgd := ins_guard
        have hiff := Lib.hid (insB_iff x y)
        cases heq : insB x.op x.a x.b x.c x.tree y.op y.a y.b y.c y.tree with
        | true =>
          have hn : Hid (l1.take (k + 1) = l2.take (k + 1)) := by
            show _ = _
            rw [take_snoc' _ _ _ HS.out, take_snoc' _ _ _ HU.out, hv.out, hiff.out.1 heq]
          rw [heq] at hq
          go_wp2
          go_quiet (fail)
          go_wp2
          go_roundg (n1 - (k + 1))
          case measure => rw [HG.out]; omega
          case rel => exact ⟨k + 1, _, by omega, rfl, by go_num, hn, rfl⟩
        | false =>
          have hn : Hid (sameP l1 l2 = false) := by
            refine decide_eq_false fun e => ?_
            subst e
            have := HS.out; rw [HU.out] at this
            simp only [Option.some.injEq] at this; subst this
            rw [hiff.out.2 rfl] at heq; cases heq
          rw [heq] at hq
          go_wp2
          go_quiet (fail)
          go_wp2
          go_ret
          exact ⟨by rw [← HR.out, hn.out]; rfl, q + nq, by rw [World.drewN_drewN]⟩
      · have hn : Hid (sameP l1 l2 = true) := by
          refine decide_eq_true ?_
          have := hv.out
          rwa [List.take_of_length_le (by rw [HN1.out]; omega), List.take_of_length_le (by rw [HN2.out]; omega)] at this
        go_wp2
        go_ret
        exact ⟨by rw [← HR.out, hn.out]; rfl, _, rfl⟩
  · have hb : ((n1 : Int) != (n2 : Int)) = true := by rw [bne_iff_ne]; omega
    have hn : Hid (sameP l1 l2 = false) := decide_eq_false fun e => hne (by rw [← HN1.out, ← HN2.out, e])
    go_enter Try.func22, Try.ntmps22
    go_wp2
    go_ret
    exact ⟨by rw [← HR.out, hn.out]; rfl, 0, rfl⟩

end Go.Proofs.Ytieocihlkpipmaa

namespace Go.Proofs.Ytieocihlkpipmaa
open Go.RowKit

theorem parse_tr (s : ByteArray) (hs : s.size ≤ 281474976710656) (w : World) :
    Calls Try.prog 85 #[.string s] w fun e w' => ∃ p, e = .returned (.tuple #[.pointer p, .bool (isTree s)]) ∧ Below w.heap.size w w' ∧ NodeP 138 w' (toTr s) (.pointer p) := by
  refine (parse_any s hs w).mono ?_
  rintro e w' ⟨p, he, hb, h1, h2⟩
  refine ⟨p, he, hb, ?_⟩
  cases h : isTree s with
  | true => exact h1 _ (TS_toTr h).symm h
  | false => rw [toTr_bad h, h2 h]; exact rfl

/-- A machine that is being made: some of the trees are read. -/
def MakeP (w : World) (g k : Nat) (l : List Ins) (pv sv : Value) : Prop :=
  w.heap[g]? = some (.cells (mcells pv sv (List.replicate 32 (.pointer none)) 0) 100 (0, 0)) ∧ ∃ xs, Nodes 138 w ((l.take k).map fun x => toTr x.tree) xs ∧ w.ownsRow (g + 1) 96 1 sv k xs
theorem MakeP.kept {w w' : World} {g k : Nat} {l : List Ins} {pv sv : Value} (h : MakeP w g k l pv sv) (hb : Below w.heap.size w w') : MakeP w' g k l pv sv := by
  obtain ⟨h0, xs, h1, h2⟩ := h
  exact ⟨(hb.block g (Array.getElem?_eq_some_iff.1 h0).1).trans h0, xs, h1.kept (Kept.below hb), own_below h2 hb⟩
theorem MakeP.cells {w : World} {g k : Nat} {l : List Ins} {pv sv : Value} (h : MakeP w g k l pv sv) : w.cell? ⟨g, 1, none⟩ = some sv ∧ w.frozen? ⟨g, 1, none⟩ = false ∧ w.cell? ⟨g, 2, none⟩ = some (.pointer none) ∧ w.frozen? ⟨g, 2, none⟩ = false := by
  obtain ⟨hc, hf⟩ := block_cells h.1
  exact ⟨by rw [hc]; rfl, hf _, by rw [hc]; rfl, hf _⟩

set_option maxHeartbeats 4000000 in
theorem newMachine_any (v : Value) (l : List Ins) (t : Tr) (x : Value) (w : World) (hl : InsRow w w.heap.size v l) (hn4 : l.length ≤ 4000) (hx : NodeP 138 w t x) :
    Calls Try.prog 84 #[v, x] w fun e w' => ∃ g sv ps, e = .returned (.pointer (some ⟨g, 0, none⟩)) ∧ MachP w' w.heap.size g l (startS t) v sv ps ∧ Below w.heap.size w w' := by
  obtain ⟨x, rfl⟩ := hx.ptr
  obtain ⟨ao, cap, rfl⟩ := hl.len
  obtain ⟨n, hn'⟩ : ∃ n, l.length = n := ⟨_, rfl⟩
  rw [hn'] at hl hn4 ⊢
  have HN := Lib.hid hn'; clear hn'
  have hb0 : Below w.heap.size w (w.alloc (.cells (mcells (.slice ao n cap) (.slice none 0 0) (List.replicate 32 (.pointer none)) 0) 100)) := (Below.refl _ _).alloc (Nat.le_refl _) _
  have hm0 : MakeP (w.alloc (.cells (mcells (.slice ao n cap) (.slice none 0 0) (List.replicate 32 (.pointer none)) 0) 100)) w.heap.size 0 l (.slice ao n cap) (.slice none 0 0) := ⟨heap_alloc_new w _, [], trivial, World.ownsRow_nil _ _ _ _⟩
  go_enter Try.func84, Try.ntmps84
  go_wp2
  go_loopg [15] n (fun g i wr => ∃ (k : Nat) (sv : Value), k ≤ n ∧ g = n - k ∧ i = .int .i64 k ∧ Aside (MakeP wr w.heap.size k l (.slice ao n cap) sv) ∧ Below w.heap.size w wr)
  case atStart => exact ⟨0, _, Nat.zero_le _, rfl, rfl, hm0, hb0⟩
  case round =>
    clear hb0 hm0
    obtain ⟨k, sv, hk, hg, rfl, hm, hbw⟩ := hrel
    have HG := Lib.hid hg; clear hg
    by_cases hlt : k < n
    · obtain ⟨y, hy⟩ : ∃ s, l[k]? = some s := ⟨_, List.getElem?_eq_getElem (by rw [HN.out]; exact hlt)⟩
      have hl2 := hl.below hbw
      obtain ⟨g, off, rfl, hg, c0, c1, c2, c3, c4⟩ := hl2.get hy
      have hz := (hl.wf hy).2.2.2.2
      have HY := Lib.hid hy; clear hy hl2
      have kp := fun w => parse_tr y.tree (by omega) w
      have hi0 : (0 : Int) ≤ (k : Int) := Int.natCast_nonneg _
      have hi1 : (k : Int) < (n : Int) := by omega
      have hb1 : Below wr.heap.size wr (wr.alloc (.cells #[.int .i64 y.op, .int .i64 y.a, .int .i64 y.b, .int .i64 y.c, .string y.tree] 73)) := (Below.refl _ _).alloc (Nat.le_refl _) _
      go_wp2_with fail
      refine (kp _).mono ?_
      rintro e w1 ⟨p, rfl, k1, hnp⟩
      have hb2 := hb1.trans (k1.mono hb1.size)
      have hm1 := hm.out.kept hb2
      have c1 := hbw.trans (hb2.mono hbw.size)
      have hcl := hm1.cells
      obtain ⟨hblk, xs, hns, hown⟩ := hm1
      obtain ⟨q1, q2, q3, q4⟩ := hcl
      have HB := Lib.hid hblk
      have HNS := Lib.hid hns
      have hGl : w.heap.size < w1.heap.size := (Array.getElem?_eq_some_iff.1 hblk).1
      have hsz1 := c1.size
      have HNP := Lib.hid hnp
      clear k1 hb1 hb2 kp hm hnp hblk hns q3 q4
      go_wp2_with (at_builtin; refine app_new el_node rfl _ _ rfl rfl hown [.pointer p] 1 rfl rfl ?c1 ?c2 ?c3 ?c4 c1 ?c5 ?_)
      case c1 => intro u hu; simp at hu; subst hu; rfl
      case c2 => omega
      case c3 => unfold maxLen; omega
      case c4 => omega
      case c5 => omega
      intro v' w2 hown2 hbw2 hg2
      obtain ⟨a2, cp2, rfl⟩ := own_len hown2
      have hne : some w.heap.size ≠ sv.ownBlock := fun e => by have := (hown.lt w.heap.size (by rw [e])).1; omega
      have hblk2 : w2.heap[w.heap.size]? = some (.cells (mcells _ sv (List.replicate 32 (.pointer none)) 0) 100 (0, 0)) := (hg2.old _ hGl hne).trans HB.out
      have hkn : Kept 138 w1 w2 := Kept.grew hown hg2 (by decide)
      have hf2 := (block_cells hblk2).2 1
      have hc2 : w2.cell? ⟨w.heap.size, 1, none⟩ = some sv := by rw [(block_cells hblk2).1]; rfl
      have hmk : Hid (MakeP (w2.setCell ⟨w.heap.size, 1, none⟩ (.slice a2 (k + 1) cp2)) w.heap.size (k + 1) l (.slice (some ⟨g, off, none⟩) n cap) (.slice a2 (k + 1) cp2)) := by
        refine ⟨set_blk hblk2 1 _, xs ++ [.pointer p], ?_, own_kept hown2 ((Kept.refl _ w2).setCell hblk2 (by decide) _)⟩
        rw [take_snoc' _ _ _ HY.out, List.map_append]
        exact ((HNS.out.kept hkn).snoc (HNP.out.kept hkn)).kept ((Kept.refl _ w2).setCell hblk2 (by decide) _)
      have c2 : Below w.heap.size w (w2.setCell ⟨w.heap.size, 1, none⟩ (.slice a2 (k + 1) cp2)) := hbw2.setCell (p := ⟨w.heap.size, 1, none⟩) (Nat.le_refl _) _
      clear hown hown2 hbw2 hg2 hblk2 hkn HNS HNP HB hne c1
      go_wp2
      go_roundg (n - (k + 1))
      case measure => rw [HG.out]; omega
      case rel => exact ⟨k + 1, _, by omega, rfl, by go_num, hmk, c2⟩
    · have hkn : k = n := by omega
      subst hkn
      obtain ⟨q1, q2, q3, q4⟩ := hm.out.cells
      have hfin : Hid (MachP (wr.setCell ⟨w.heap.size, 2, none⟩ (.pointer x)) w.heap.size w.heap.size l (startS t) (.slice ao k cap) sv (.pointer x :: List.replicate 31 (.pointer none))) := by
        obtain ⟨hblk, xs, hns, hown⟩ := hm.out
        rw [List.take_of_length_le (by rw [HN.out]; exact Nat.le_refl _)] at hns
        have hK := (Kept.refl 138 wr).setCell hblk (by decide) (.pointer x) (a := ⟨w.heap.size, 2, none⟩)
        have hK2 := (Kept.refl 96 wr).setCell hblk (by decide) (.pointer x) (a := ⟨w.heap.size, 2, none⟩)
        refine ⟨?_, ⟨(hx.kept (Kept.below (hbw.mono (Nat.le_refl _)))).kept hK, Nodes.nils 31⟩, hl.below (hbw.setCell (p := ⟨w.heap.size, 2, none⟩) (Nat.le_refl _) _), Nat.le_refl _, xs, hns.kept hK, by rw [HN.out]; exact own_kept hown hK2⟩
        exact set_blk hblk 2 _
      have c2 : Below w.heap.size w (wr.setCell ⟨w.heap.size, 2, none⟩ (.pointer x)) := hbw.setCell (p := ⟨w.heap.size, 2, none⟩) (Nat.le_refl _) _
      clear hl hx
      go_wp2
      go_ret
      exact ⟨_, _, _, rfl, hfin.out, c2⟩

end Go.Proofs.Ytieocihlkpipmaa

namespace Go.Proofs.Ytieocihlkpipmaa
open Go.RowKit

/-- Every block but one stands. -/
structure Els (g : Nat) (w w' : World) : Prop where
  os : w'.os = w.os
  tape : w'.tape = w.tape
  output : w'.output = w.output
  size : w.heap.size ≤ w'.heap.size
  block : ∀ k, k < w.heap.size → k ≠ g → w'.heap[k]? = w.heap[k]?
theorem Els.refl (g : Nat) (w : World) : Els g w w := ⟨rfl, rfl, rfl, Nat.le_refl _, fun _ _ _ => rfl⟩
theorem Els.of_below {g : Nat} {w w' : World} (h : Below w.heap.size w w') : Els g w w' := ⟨h.os, h.tape, h.output, h.size, fun k hk _ => h.block k hk⟩
theorem Els.trans {g : Nat} {a b c : World} (h : Els g a b) (k : Els g b c) : Els g a c :=
  ⟨k.os.trans h.os, k.tape.trans h.tape, k.output.trans h.output, Nat.le_trans h.size k.size, fun i hi hg => (k.block i (by have := h.size; omega) hg).trans (h.block i hi hg)⟩
theorem Els.set {g : Nat} {w w' : World} (h : Els g w w') (j : Nat) (u : Value) : Els g w (w'.setCell ⟨g, j, none⟩ u) :=
  h.trans ⟨rfl, rfl, rfl, by simp [World.setCell], fun k _ hk => Below.heap_setCell _ _ _ _ (by show k ≠ g; exact hk)⟩
theorem Els.below {g B : Nat} {w w' : World} (h : Els g w w') (hB : B ≤ g) (hs : B ≤ w.heap.size) : Below B w w' := ⟨h.os, h.tape, h.output, h.size, fun k hk => h.block k (by omega) (by omega)⟩

set_option maxHeartbeats 1000000 in
theorem ended_any (w : World) (B g : Nat) (l : List Ins) (s : St) (pv sv : Value) (ps : List Value) (hm : MachP w B g l s pv sv ps) (hg : Good l.length s) :
    Calls Try.prog 70 #[.pointer (some ⟨g, 0, none⟩)] w fun e w' => e = .returned (.bool ((s.pos : Int) == (l.length : Int))) ∧ ∃ nq, w' = w.drewN nq := by
  obtain ⟨ao, cap, rfl⟩ := hm.prog.len
  obtain ⟨c0, c1, c34, _, _⟩ := hm.cells hg.2.1
  obtain ⟨n, hn'⟩ : ∃ n, l.length = n := ⟨_, rfl⟩
  rw [hn'] at c0 ⊢
  clear hm hg hn'
  go_enter Try.func70, Try.ntmps70
  go_wp2
  go_quiet (fail)
  go_wp2
  go_ret
  exact ⟨rfl, _, rfl⟩

/-- A step went well. -/
def StepOk (w : World) (B g : Nat) (l : List Ins) (s' : St) (pv sv : Value) (e : Ending) (w' : World) : Prop :=
  ∃ ps', e = .returned (.bool true) ∧ MachP w' B g l s' pv sv ps' ∧ Els g w w'

theorem step_fin {w wd : World} {B g : Nat} {l : List Ins} {s : St} {pv sv : Value} {ps : List Value} (hm : MachP wd B g l s pv sv ps) (h32 : s.regs.length = 32) (hb : Els g w wd) (ra : Nat) (hra : ra < 32) {t : Tr} {q : Option Addr} (hn : NodeP 138 wd t (.pointer q)) :
    ∃ ps', MachP ((wd.setCell ⟨g, 2 + ra, none⟩ (.pointer q)).setCell ⟨g, 34, none⟩ (.int .i64 ((s.pos : Int) + 1))) B g l ⟨s.pos + 1, s.regs.set ra t⟩ pv sv ps' ∧ Els g w ((wd.setCell ⟨g, 2 + ra, none⟩ (.pointer q)).setCell ⟨g, 34, none⟩ (.int .i64 ((s.pos : Int) + 1))) :=
  ⟨_, (hm.setReg ra (by omega) hn).setPos (by simp [h32]) (s.pos + 1), (hb.set _ _).set _ _⟩
theorem step_fin_drew {w w' : World} {B g : Nat} {l : List Ins} {s' : St} {pv sv : Value} (h : ∃ ps', MachP w' B g l s' pv sv ps' ∧ Els g w w') : ∃ ps', MachP w'.drew B g l s' pv sv ps' ∧ Els g w w'.drew := by
  obtain ⟨ps', h1, h2⟩ := h
  exact ⟨ps', h1.kept (Below.refl _ _).drew, h2.trans (Els.of_below (Below.refl _ _).drew)⟩
theorem StepOk.mk' {w : World} {B g : Nat} {l : List Ins} {s' : St} {pv sv : Value} {e : Ending} {w' : World} (he : e = .returned (.bool true)) (h : ∃ ps', MachP w' B g l s' pv sv ps' ∧ Els g w w') : StepOk w B g l s' pv sv e w' := by
  obtain ⟨ps', h1, h2⟩ := h
  exact ⟨ps', he, h1, h2⟩

set_option maxRecDepth 20000 in
set_option maxHeartbeats 4000000 in
theorem step_set (w : World) (B g : Nat) (l : List Ins) (s : St) (pv sv : Value) (ps : List Value) (hm : MachP w B g l s pv sv ps) (hg : Good l.length s) (hn4 : l.length ≤ 4000) (ra : Nat) (ha : ra < 32) (b c : Int) (tree : ByteArray)
    (hx : l[s.pos]? = some ⟨0, (ra : Nat), b, c, tree⟩) :
    Calls Try.prog 86 #[.pointer (some ⟨g, 0, none⟩)] w (StepOk w B g l ⟨s.pos + 1, s.regs.set ra (toTr tree)⟩ pv sv) := by
  have hp : s.pos < l.length := (List.getElem?_eq_some_iff.1 hx).1
  obtain ⟨ao, cap, rfl⟩ := hm.prog.len
  obtain ⟨c0, c1, c34, hr, hf⟩ := hm.cells hg.2.1
  have hl := hm.prog
  have hlt := hm.lt
  have hle := hm.le
  obtain ⟨xs, hxs, hown⟩ := hm.sets
  obtain ⟨n, hn'⟩ : ∃ n, l.length = n := ⟨_, rfl⟩
  rw [hn'] at hl c0 hp hn4 hown
  obtain ⟨pg, off, rfl, hpg, p0, p1, p2, p3, p4⟩ := hl.get hx
  dsimp only at p0 p1 p2 p3 p4
  have h32 := hg.2.1
  have HX := Lib.hid hx
  have HN := Lib.hid hn'
  have HM := Lib.hid hm
  have hi0 : (0 : Int) ≤ (s.pos : Int) := Int.natCast_nonneg _
  have hi1 : (s.pos : Int) < (n : Int) := by omega
  obtain ⟨wd, hwd⟩ : ∃ wd, (w.alloc (.cells #[.int .i64 (0), .int .i64 (ra : Nat), .int .i64 (b), .int .i64 (c), .string tree] 73)).drew = wd := ⟨_, rfl⟩
  have hbd : Below w.heap.size w wd := by rw [← hwd]; exact ((Below.refl _ _).alloc (Nat.le_refl _) _).drew
  have hbox : wd.heap[w.heap.size]? = some (.cells #[.int .i64 (0), .int .i64 (ra : Nat), .int .i64 (b), .int .i64 (c), .string tree] 73 (0, 0)) := by rw [← hwd]; exact heap_alloc_new w _
  have keep : ∀ w', Below w.heap.size w w' → w'.cell? ⟨g, 0, none⟩ = some (.slice (some ⟨pg, off, none⟩) n cap) ∧ w'.cell? ⟨g, 34, none⟩ = some (.int .i64 s.pos) ∧ w'.cell? ⟨pg, off + s.pos * 5, none⟩ = some (.int .i64 (0)) ∧ w'.cell? ⟨pg, off + s.pos * 5 + 1, none⟩ = some (.int .i64 (ra : Nat)) ∧
      w'.cell? ⟨pg, off + s.pos * 5 + 2, none⟩ = some (.int .i64 (b)) ∧ w'.cell? ⟨pg, off + s.pos * 5 + 3, none⟩ = some (.int .i64 (c)) ∧ w'.cell? ⟨pg, off + s.pos * 5 + 4, none⟩ = some (.string tree) := fun w' hb => by
    refine ⟨(hb.cell (p := ⟨g, 0, none⟩) hlt).trans c0, (hb.cell (p := ⟨g, 34, none⟩) hlt).trans c34, (hb.cell (p := ⟨pg, off + s.pos * 5, none⟩) (by show pg < _; omega)).trans p0, (hb.cell (p := ⟨pg, off + s.pos * 5 + 1, none⟩) (by show pg < _; omega)).trans p1, (hb.cell (p := ⟨pg, off + s.pos * 5 + 2, none⟩) (by show pg < _; omega)).trans p2, (hb.cell (p := ⟨pg, off + s.pos * 5 + 3, none⟩) (by show pg < _; omega)).trans p3, (hb.cell (p := ⟨pg, off + s.pos * 5 + 4, none⟩) (by show pg < _; omega)).trans p4⟩
  have hmd := hm.kept hbd
  obtain ⟨d0, d1, d34, dr, df⟩ := hmd.cells h32
  have e0 := (block_cells hbox).1 0
  have e1 := (block_cells hbox).1 1
  have e2 := (block_cells hbox).1 2
  have e3 := (block_cells hbox).1 3
  simp only [List.getElem?_toArray, List.getElem?_cons_zero, List.getElem?_cons_succ] at e0 e1 e2 e3
  have hbl : w.heap.size < wd.heap.size := (Array.getElem?_eq_some_iff.1 hbox).1
  have HMD := Lib.hid hmd
  clear hmd hbox
  obtain ⟨tra, htra⟩ : ∃ t, s.regs[ra]? = some t := ⟨_, List.getElem?_eq_getElem (by omega)⟩
  obtain ⟨qra, fra, nra⟩ := dr ra tra htra
  have zra := df (2 + ra)
  obtain ⟨v0, hv0, hnv⟩ := hxs.get (j := s.pos) (t := toTr tree) (by rw [List.getElem?_map, hx]; rfl)
  obtain ⟨sp, rfl⟩ := hnv.ptr
  have hnd := hnv.kept (Kept.below hbd)
  have hown' := own_below hown hbd
  obtain ⟨sg, scp, rfl, hsr⟩ := own_cells hown' (by omega)

  clear hm hg hl hx hn' hxs hown hr hle hpg
  go_enter Try.func86, Try.ntmps86
  go_wp2
  go_region_held3 (fun w' => w'.cell? ⟨g, 0, none⟩ = some (.slice (some ⟨pg, off, none⟩) n cap) ∧ w'.cell? ⟨g, 34, none⟩ = some (.int .i64 s.pos) ∧ w'.cell? ⟨pg, off + s.pos * 5, none⟩ = some (.int .i64 (0)) ∧ w'.cell? ⟨pg, off + s.pos * 5 + 1, none⟩ = some (.int .i64 (ra : Nat)) ∧
      w'.cell? ⟨pg, off + s.pos * 5 + 2, none⟩ = some (.int .i64 (b)) ∧ w'.cell? ⟨pg, off + s.pos * 5 + 3, none⟩ = some (.int .i64 (c)) ∧ w'.cell? ⟨pg, off + s.pos * 5 + 4, none⟩ = some (.string tree))
    (exact keep _ (by first | exact hbd | exact (Below.refl _ _).drew | exact ((Below.refl _ _).drew).alloc (Nat.le_refl _) _))
    (fail)
  try rw [hwd]
  clear keep hwd p0 p1 p2 p3 p4 c0 c1 c34
  have hset : wd.cell? ⟨sg, s.pos, none⟩ = some (.pointer sp) := by rw [hsr.2.2.2.2.1 s.pos (by omega), hv0]
  have HND := Lib.hid hnd
  clear hsr dr df hnd nra hnv
  have df34 := (block_cells HMD.out.blk).2 34
  go_wp2
  go_region
  go_wp2
  go_ret
  refine StepOk.mk' rfl ?_
  first
  | exact step_fin_drew (step_fin HMD.out h32 (Els.of_below hbd) ra ha HND.out)
  | exact step_fin (HMD.out.kept (Below.refl _ _).drew) h32 (Els.of_below hbd.drew) ra ha (NodeP.kept (Kept.refl _ _).drew HND.out)

set_option maxRecDepth 20000 in
set_option maxHeartbeats 4000000 in
theorem step_move (w : World) (B g : Nat) (l : List Ins) (s : St) (pv sv : Value) (ps : List Value) (hm : MachP w B g l s pv sv ps) (hg : Good l.length s) (hn4 : l.length ≤ 4000) (ra : Nat) (ha : ra < 32) (rb : Nat) (hb : rb < 32) (t : Tr) (ht : s.regs[rb]? = some t) (c : Int) (tree : ByteArray)
    (hx : l[s.pos]? = some ⟨1, (ra : Nat), (rb : Nat), c, tree⟩) :
    Calls Try.prog 86 #[.pointer (some ⟨g, 0, none⟩)] w (StepOk w B g l ⟨s.pos + 1, s.regs.set ra t⟩ pv sv) := by
  have hp : s.pos < l.length := (List.getElem?_eq_some_iff.1 hx).1
  obtain ⟨ao, cap, rfl⟩ := hm.prog.len
  obtain ⟨c0, c1, c34, hr, hf⟩ := hm.cells hg.2.1
  have hl := hm.prog
  have hlt := hm.lt
  have hle := hm.le
  obtain ⟨xs, hxs, hown⟩ := hm.sets
  obtain ⟨n, hn'⟩ : ∃ n, l.length = n := ⟨_, rfl⟩
  rw [hn'] at hl c0 hp hn4 hown
  obtain ⟨pg, off, rfl, hpg, p0, p1, p2, p3, p4⟩ := hl.get hx
  dsimp only at p0 p1 p2 p3 p4
  have h32 := hg.2.1
  have HX := Lib.hid hx
  have HN := Lib.hid hn'
  have HM := Lib.hid hm
  have hi0 : (0 : Int) ≤ (s.pos : Int) := Int.natCast_nonneg _
  have hi1 : (s.pos : Int) < (n : Int) := by omega
  obtain ⟨wd, hwd⟩ : ∃ wd, (w.alloc (.cells #[.int .i64 (1), .int .i64 (ra : Nat), .int .i64 (rb : Nat), .int .i64 (c), .string tree] 73)).drew = wd := ⟨_, rfl⟩
  have hbd : Below w.heap.size w wd := by rw [← hwd]; exact ((Below.refl _ _).alloc (Nat.le_refl _) _).drew
  have hbox : wd.heap[w.heap.size]? = some (.cells #[.int .i64 (1), .int .i64 (ra : Nat), .int .i64 (rb : Nat), .int .i64 (c), .string tree] 73 (0, 0)) := by rw [← hwd]; exact heap_alloc_new w _
  have keep : ∀ w', Below w.heap.size w w' → w'.cell? ⟨g, 0, none⟩ = some (.slice (some ⟨pg, off, none⟩) n cap) ∧ w'.cell? ⟨g, 34, none⟩ = some (.int .i64 s.pos) ∧ w'.cell? ⟨pg, off + s.pos * 5, none⟩ = some (.int .i64 (1)) ∧ w'.cell? ⟨pg, off + s.pos * 5 + 1, none⟩ = some (.int .i64 (ra : Nat)) ∧
      w'.cell? ⟨pg, off + s.pos * 5 + 2, none⟩ = some (.int .i64 (rb : Nat)) ∧ w'.cell? ⟨pg, off + s.pos * 5 + 3, none⟩ = some (.int .i64 (c)) ∧ w'.cell? ⟨pg, off + s.pos * 5 + 4, none⟩ = some (.string tree) := fun w' hb => by
    refine ⟨(hb.cell (p := ⟨g, 0, none⟩) hlt).trans c0, (hb.cell (p := ⟨g, 34, none⟩) hlt).trans c34, (hb.cell (p := ⟨pg, off + s.pos * 5, none⟩) (by show pg < _; omega)).trans p0, (hb.cell (p := ⟨pg, off + s.pos * 5 + 1, none⟩) (by show pg < _; omega)).trans p1, (hb.cell (p := ⟨pg, off + s.pos * 5 + 2, none⟩) (by show pg < _; omega)).trans p2, (hb.cell (p := ⟨pg, off + s.pos * 5 + 3, none⟩) (by show pg < _; omega)).trans p3, (hb.cell (p := ⟨pg, off + s.pos * 5 + 4, none⟩) (by show pg < _; omega)).trans p4⟩
  have hmd := hm.kept hbd
  obtain ⟨d0, d1, d34, dr, df⟩ := hmd.cells h32
  have e0 := (block_cells hbox).1 0
  have e1 := (block_cells hbox).1 1
  have e2 := (block_cells hbox).1 2
  have e3 := (block_cells hbox).1 3
  simp only [List.getElem?_toArray, List.getElem?_cons_zero, List.getElem?_cons_succ] at e0 e1 e2 e3
  have hbl : w.heap.size < wd.heap.size := (Array.getElem?_eq_some_iff.1 hbox).1
  have HMD := Lib.hid hmd
  clear hmd hbox
  obtain ⟨tra, htra⟩ : ∃ t, s.regs[ra]? = some t := ⟨_, List.getElem?_eq_getElem (by omega)⟩
  obtain ⟨qra, fra, nra⟩ := dr ra tra htra
  have zra := df (2 + ra)
  obtain ⟨qb, fb, nb⟩ := dr rb t ht

  clear hm hg hl hx hn' hxs hown hr hle hpg
  go_enter Try.func86, Try.ntmps86
  go_wp2
  go_region_held3 (fun w' => w'.cell? ⟨g, 0, none⟩ = some (.slice (some ⟨pg, off, none⟩) n cap) ∧ w'.cell? ⟨g, 34, none⟩ = some (.int .i64 s.pos) ∧ w'.cell? ⟨pg, off + s.pos * 5, none⟩ = some (.int .i64 (1)) ∧ w'.cell? ⟨pg, off + s.pos * 5 + 1, none⟩ = some (.int .i64 (ra : Nat)) ∧
      w'.cell? ⟨pg, off + s.pos * 5 + 2, none⟩ = some (.int .i64 (rb : Nat)) ∧ w'.cell? ⟨pg, off + s.pos * 5 + 3, none⟩ = some (.int .i64 (c)) ∧ w'.cell? ⟨pg, off + s.pos * 5 + 4, none⟩ = some (.string tree))
    (exact keep _ (by first | exact hbd | exact (Below.refl _ _).drew | exact ((Below.refl _ _).drew).alloc (Nat.le_refl _) _))
    (fail)
  try rw [hwd]
  clear keep hwd p0 p1 p2 p3 p4 c0 c1 c34
  have HND := Lib.hid nb
  clear dr df nb nra
  have df34 := (block_cells HMD.out.blk).2 34
  go_wp2
  go_region
  go_wp2
  go_ret
  refine StepOk.mk' rfl ?_
  first
  | exact step_fin_drew (step_fin HMD.out h32 (Els.of_below hbd) ra ha HND.out)
  | exact step_fin (HMD.out.kept (Below.refl _ _).drew) h32 (Els.of_below hbd.drew) ra ha (NodeP.kept (Kept.refl _ _).drew HND.out)

set_option maxRecDepth 20000 in
set_option maxHeartbeats 4000000 in
theorem step_head (w : World) (B g : Nat) (l : List Ins) (s : St) (pv sv : Value) (ps : List Value) (hm : MachP w B g l s pv sv ps) (hg : Good l.length s) (hn4 : l.length ≤ 4000) (ra : Nat) (ha : ra < 32) (rb : Nat) (hb : rb < 32) (t : Tr) (ht : s.regs[rb]? = some t) (c : Int) (tree : ByteArray)
    (hx : l[s.pos]? = some ⟨3, (ra : Nat), (rb : Nat), c, tree⟩) :
    Calls Try.prog 86 #[.pointer (some ⟨g, 0, none⟩)] w (StepOk w B g l ⟨s.pos + 1, s.regs.set ra t.hd⟩ pv sv) := by
  have hp : s.pos < l.length := (List.getElem?_eq_some_iff.1 hx).1
  obtain ⟨ao, cap, rfl⟩ := hm.prog.len
  obtain ⟨c0, c1, c34, hr, hf⟩ := hm.cells hg.2.1
  have hl := hm.prog
  have hlt := hm.lt
  have hle := hm.le
  obtain ⟨xs, hxs, hown⟩ := hm.sets
  obtain ⟨n, hn'⟩ : ∃ n, l.length = n := ⟨_, rfl⟩
  rw [hn'] at hl c0 hp hn4 hown
  obtain ⟨pg, off, rfl, hpg, p0, p1, p2, p3, p4⟩ := hl.get hx
  dsimp only at p0 p1 p2 p3 p4
  have h32 := hg.2.1
  have HX := Lib.hid hx
  have HN := Lib.hid hn'
  have HM := Lib.hid hm
  have hi0 : (0 : Int) ≤ (s.pos : Int) := Int.natCast_nonneg _
  have hi1 : (s.pos : Int) < (n : Int) := by omega
  obtain ⟨wd, hwd⟩ : ∃ wd, (w.alloc (.cells #[.int .i64 (3), .int .i64 (ra : Nat), .int .i64 (rb : Nat), .int .i64 (c), .string tree] 73)).drew = wd := ⟨_, rfl⟩
  have hbd : Below w.heap.size w wd := by rw [← hwd]; exact ((Below.refl _ _).alloc (Nat.le_refl _) _).drew
  have hbox : wd.heap[w.heap.size]? = some (.cells #[.int .i64 (3), .int .i64 (ra : Nat), .int .i64 (rb : Nat), .int .i64 (c), .string tree] 73 (0, 0)) := by rw [← hwd]; exact heap_alloc_new w _
  have keep : ∀ w', Below w.heap.size w w' → w'.cell? ⟨g, 0, none⟩ = some (.slice (some ⟨pg, off, none⟩) n cap) ∧ w'.cell? ⟨g, 34, none⟩ = some (.int .i64 s.pos) ∧ w'.cell? ⟨pg, off + s.pos * 5, none⟩ = some (.int .i64 (3)) ∧ w'.cell? ⟨pg, off + s.pos * 5 + 1, none⟩ = some (.int .i64 (ra : Nat)) ∧
      w'.cell? ⟨pg, off + s.pos * 5 + 2, none⟩ = some (.int .i64 (rb : Nat)) ∧ w'.cell? ⟨pg, off + s.pos * 5 + 3, none⟩ = some (.int .i64 (c)) ∧ w'.cell? ⟨pg, off + s.pos * 5 + 4, none⟩ = some (.string tree) := fun w' hb => by
    refine ⟨(hb.cell (p := ⟨g, 0, none⟩) hlt).trans c0, (hb.cell (p := ⟨g, 34, none⟩) hlt).trans c34, (hb.cell (p := ⟨pg, off + s.pos * 5, none⟩) (by show pg < _; omega)).trans p0, (hb.cell (p := ⟨pg, off + s.pos * 5 + 1, none⟩) (by show pg < _; omega)).trans p1, (hb.cell (p := ⟨pg, off + s.pos * 5 + 2, none⟩) (by show pg < _; omega)).trans p2, (hb.cell (p := ⟨pg, off + s.pos * 5 + 3, none⟩) (by show pg < _; omega)).trans p3, (hb.cell (p := ⟨pg, off + s.pos * 5 + 4, none⟩) (by show pg < _; omega)).trans p4⟩
  have hmd := hm.kept hbd
  obtain ⟨d0, d1, d34, dr, df⟩ := hmd.cells h32
  have e0 := (block_cells hbox).1 0
  have e1 := (block_cells hbox).1 1
  have e2 := (block_cells hbox).1 2
  have e3 := (block_cells hbox).1 3
  simp only [List.getElem?_toArray, List.getElem?_cons_zero, List.getElem?_cons_succ] at e0 e1 e2 e3
  have hbl : w.heap.size < wd.heap.size := (Array.getElem?_eq_some_iff.1 hbox).1
  have HMD := Lib.hid hmd
  clear hmd hbox
  obtain ⟨tra, htra⟩ : ∃ t, s.regs[ra]? = some t := ⟨_, List.getElem?_eq_getElem (by omega)⟩
  obtain ⟨qra, fra, nra⟩ := dr ra tra htra
  have zra := df (2 + ra)
  obtain ⟨qb, fb, nb⟩ := dr rb t ht

  clear hm hg hl hx hn' hxs hown hr hle hpg
  go_enter Try.func86, Try.ntmps86
  go_wp2
  go_region_held3 (fun w' => w'.cell? ⟨g, 0, none⟩ = some (.slice (some ⟨pg, off, none⟩) n cap) ∧ w'.cell? ⟨g, 34, none⟩ = some (.int .i64 s.pos) ∧ w'.cell? ⟨pg, off + s.pos * 5, none⟩ = some (.int .i64 (3)) ∧ w'.cell? ⟨pg, off + s.pos * 5 + 1, none⟩ = some (.int .i64 (ra : Nat)) ∧
      w'.cell? ⟨pg, off + s.pos * 5 + 2, none⟩ = some (.int .i64 (rb : Nat)) ∧ w'.cell? ⟨pg, off + s.pos * 5 + 3, none⟩ = some (.int .i64 (c)) ∧ w'.cell? ⟨pg, off + s.pos * 5 + 4, none⟩ = some (.string tree))
    (exact keep _ (by first | exact hbd | exact (Below.refl _ _).drew | exact ((Below.refl _ _).drew).alloc (Nat.le_refl _) _))
    (fail)
  try rw [hwd]
  clear keep hwd p0 p1 p2 p3 p4 c0 c1 c34
  have HND := Lib.hid nb
  have kc : ∀ w', Below wd.heap.size wd w' → Calls Try.prog 99 #[.pointer qb] w' fun e w'' => ∃ x, e = .returned (.pointer x) ∧ NodeP 138 w' t.hd (.pointer x) ∧ w' = w'' := fun w' hb' => nodeHead_any t _ w' (HND.out.kept (Kept.below hb'))
  clear dr df nb nra
  have df34 := (block_cells HMD.out.blk).2 34
  go_wp2
  go_region_with (refine (kc _ (by first | exact Below.refl _ _ | exact (Below.refl _ _).drew)).mono ?_; rintro e w2 ⟨xq, rfl, hnx, rfl⟩)
  all_goals
    go_wp2
    go_ret
    refine StepOk.mk' rfl ?_
    first
    | exact step_fin_drew (step_fin HMD.out h32 (Els.of_below hbd) ra ha hnx)
    | exact step_fin (HMD.out.kept (Below.refl _ _).drew) h32 (Els.of_below hbd.drew) ra ha hnx

set_option maxRecDepth 20000 in
set_option maxHeartbeats 4000000 in
theorem step_tail (w : World) (B g : Nat) (l : List Ins) (s : St) (pv sv : Value) (ps : List Value) (hm : MachP w B g l s pv sv ps) (hg : Good l.length s) (hn4 : l.length ≤ 4000) (ra : Nat) (ha : ra < 32) (rb : Nat) (hb : rb < 32) (t : Tr) (ht : s.regs[rb]? = some t) (c : Int) (tree : ByteArray)
    (hx : l[s.pos]? = some ⟨4, (ra : Nat), (rb : Nat), c, tree⟩) :
    Calls Try.prog 86 #[.pointer (some ⟨g, 0, none⟩)] w (StepOk w B g l ⟨s.pos + 1, s.regs.set ra t.tl⟩ pv sv) := by
  have hp : s.pos < l.length := (List.getElem?_eq_some_iff.1 hx).1
  obtain ⟨ao, cap, rfl⟩ := hm.prog.len
  obtain ⟨c0, c1, c34, hr, hf⟩ := hm.cells hg.2.1
  have hl := hm.prog
  have hlt := hm.lt
  have hle := hm.le
  obtain ⟨xs, hxs, hown⟩ := hm.sets
  obtain ⟨n, hn'⟩ : ∃ n, l.length = n := ⟨_, rfl⟩
  rw [hn'] at hl c0 hp hn4 hown
  obtain ⟨pg, off, rfl, hpg, p0, p1, p2, p3, p4⟩ := hl.get hx
  dsimp only at p0 p1 p2 p3 p4
  have h32 := hg.2.1
  have HX := Lib.hid hx
  have HN := Lib.hid hn'
  have HM := Lib.hid hm
  have hi0 : (0 : Int) ≤ (s.pos : Int) := Int.natCast_nonneg _
  have hi1 : (s.pos : Int) < (n : Int) := by omega
  obtain ⟨wd, hwd⟩ : ∃ wd, (w.alloc (.cells #[.int .i64 (4), .int .i64 (ra : Nat), .int .i64 (rb : Nat), .int .i64 (c), .string tree] 73)).drew = wd := ⟨_, rfl⟩
  have hbd : Below w.heap.size w wd := by rw [← hwd]; exact ((Below.refl _ _).alloc (Nat.le_refl _) _).drew
  have hbox : wd.heap[w.heap.size]? = some (.cells #[.int .i64 (4), .int .i64 (ra : Nat), .int .i64 (rb : Nat), .int .i64 (c), .string tree] 73 (0, 0)) := by rw [← hwd]; exact heap_alloc_new w _
  have keep : ∀ w', Below w.heap.size w w' → w'.cell? ⟨g, 0, none⟩ = some (.slice (some ⟨pg, off, none⟩) n cap) ∧ w'.cell? ⟨g, 34, none⟩ = some (.int .i64 s.pos) ∧ w'.cell? ⟨pg, off + s.pos * 5, none⟩ = some (.int .i64 (4)) ∧ w'.cell? ⟨pg, off + s.pos * 5 + 1, none⟩ = some (.int .i64 (ra : Nat)) ∧
      w'.cell? ⟨pg, off + s.pos * 5 + 2, none⟩ = some (.int .i64 (rb : Nat)) ∧ w'.cell? ⟨pg, off + s.pos * 5 + 3, none⟩ = some (.int .i64 (c)) ∧ w'.cell? ⟨pg, off + s.pos * 5 + 4, none⟩ = some (.string tree) := fun w' hb => by
    refine ⟨(hb.cell (p := ⟨g, 0, none⟩) hlt).trans c0, (hb.cell (p := ⟨g, 34, none⟩) hlt).trans c34, (hb.cell (p := ⟨pg, off + s.pos * 5, none⟩) (by show pg < _; omega)).trans p0, (hb.cell (p := ⟨pg, off + s.pos * 5 + 1, none⟩) (by show pg < _; omega)).trans p1, (hb.cell (p := ⟨pg, off + s.pos * 5 + 2, none⟩) (by show pg < _; omega)).trans p2, (hb.cell (p := ⟨pg, off + s.pos * 5 + 3, none⟩) (by show pg < _; omega)).trans p3, (hb.cell (p := ⟨pg, off + s.pos * 5 + 4, none⟩) (by show pg < _; omega)).trans p4⟩
  have hmd := hm.kept hbd
  obtain ⟨d0, d1, d34, dr, df⟩ := hmd.cells h32
  have e0 := (block_cells hbox).1 0
  have e1 := (block_cells hbox).1 1
  have e2 := (block_cells hbox).1 2
  have e3 := (block_cells hbox).1 3
  simp only [List.getElem?_toArray, List.getElem?_cons_zero, List.getElem?_cons_succ] at e0 e1 e2 e3
  have hbl : w.heap.size < wd.heap.size := (Array.getElem?_eq_some_iff.1 hbox).1
  have HMD := Lib.hid hmd
  clear hmd hbox
  obtain ⟨tra, htra⟩ : ∃ t, s.regs[ra]? = some t := ⟨_, List.getElem?_eq_getElem (by omega)⟩
  obtain ⟨qra, fra, nra⟩ := dr ra tra htra
  have zra := df (2 + ra)
  obtain ⟨qb, fb, nb⟩ := dr rb t ht

  clear hm hg hl hx hn' hxs hown hr hle hpg
  go_enter Try.func86, Try.ntmps86
  go_wp2
  go_region_held3 (fun w' => w'.cell? ⟨g, 0, none⟩ = some (.slice (some ⟨pg, off, none⟩) n cap) ∧ w'.cell? ⟨g, 34, none⟩ = some (.int .i64 s.pos) ∧ w'.cell? ⟨pg, off + s.pos * 5, none⟩ = some (.int .i64 (4)) ∧ w'.cell? ⟨pg, off + s.pos * 5 + 1, none⟩ = some (.int .i64 (ra : Nat)) ∧
      w'.cell? ⟨pg, off + s.pos * 5 + 2, none⟩ = some (.int .i64 (rb : Nat)) ∧ w'.cell? ⟨pg, off + s.pos * 5 + 3, none⟩ = some (.int .i64 (c)) ∧ w'.cell? ⟨pg, off + s.pos * 5 + 4, none⟩ = some (.string tree))
    (exact keep _ (by first | exact hbd | exact (Below.refl _ _).drew | exact ((Below.refl _ _).drew).alloc (Nat.le_refl _) _))
    (fail)
  try rw [hwd]
  clear keep hwd p0 p1 p2 p3 p4 c0 c1 c34
  have HND := Lib.hid nb
  have kc : ∀ w', Below wd.heap.size wd w' → Calls Try.prog 100 #[.pointer qb] w' fun e w'' => ∃ x, e = .returned (.pointer x) ∧ NodeP 138 w' t.tl (.pointer x) ∧ w' = w'' := fun w' hb' => nodeTail_any t _ w' (HND.out.kept (Kept.below hb'))
  clear dr df nb nra
  have df34 := (block_cells HMD.out.blk).2 34
  go_wp2
  go_region_with (refine (kc _ (by first | exact Below.refl _ _ | exact (Below.refl _ _).drew)).mono ?_; rintro e w2 ⟨xq, rfl, hnx, rfl⟩)
  all_goals
    go_wp2
    go_ret
    refine StepOk.mk' rfl ?_
    first
    | exact step_fin_drew (step_fin HMD.out h32 (Els.of_below hbd) ra ha hnx)
    | exact step_fin (HMD.out.kept (Below.refl _ _).drew) h32 (Els.of_below hbd.drew) ra ha hnx

end Go.Proofs.Ytieocihlkpipmaa

namespace Go.Proofs.Ytieocihlkpipmaa
open Go.RowKit

set_option maxRecDepth 20000 in
set_option maxHeartbeats 4000000 in
theorem step_cons_ok (w : World) (B g : Nat) (l : List Ins) (s : St) (pv sv : Value) (ps : List Value) (hm : MachP w B g l s pv sv ps) (hg : Good l.length s) (hn4 : l.length ≤ 4000) (ra : Nat) (ha : ra < 32) (rb : Nat) (hb : rb < 32) (rc : Nat) (hc : rc < 32) (t : Tr) (ht : s.regs[rb]? = some t) (u : Tr) (hu : s.regs[rc]? = some u) (tree : ByteArray) (hsz : (Tr.pair t u).size ≤ 2000000)
    (hx : l[s.pos]? = some ⟨2, (ra : Nat), (rb : Nat), (rc : Nat), tree⟩) :
    Calls Try.prog 86 #[.pointer (some ⟨g, 0, none⟩)] w (StepOk w B g l ⟨s.pos + 1, s.regs.set ra (.pair t u)⟩ pv sv) := by
  have hp : s.pos < l.length := (List.getElem?_eq_some_iff.1 hx).1
  obtain ⟨ao, cap, rfl⟩ := hm.prog.len
  obtain ⟨c0, c1, c34, hr, hf⟩ := hm.cells hg.2.1
  have hl := hm.prog
  have hlt := hm.lt
  have hle := hm.le
  obtain ⟨xs, hxs, hown⟩ := hm.sets
  obtain ⟨n, hn'⟩ : ∃ n, l.length = n := ⟨_, rfl⟩
  rw [hn'] at hl c0 hp hn4 hown
  obtain ⟨pg, off, rfl, hpg, p0, p1, p2, p3, p4⟩ := hl.get hx
  dsimp only at p0 p1 p2 p3 p4
  have h32 := hg.2.1
  have HX := Lib.hid hx
  have HN := Lib.hid hn'
  have HM := Lib.hid hm
  have hi0 : (0 : Int) ≤ (s.pos : Int) := Int.natCast_nonneg _
  have hi1 : (s.pos : Int) < (n : Int) := by omega
  obtain ⟨wd, hwd⟩ : ∃ wd, (w.alloc (.cells #[.int .i64 (2), .int .i64 (ra : Nat), .int .i64 (rb : Nat), .int .i64 (rc : Nat), .string tree] 73)).drew = wd := ⟨_, rfl⟩
  have hbd : Below w.heap.size w wd := by rw [← hwd]; exact ((Below.refl _ _).alloc (Nat.le_refl _) _).drew
  have hbox : wd.heap[w.heap.size]? = some (.cells #[.int .i64 (2), .int .i64 (ra : Nat), .int .i64 (rb : Nat), .int .i64 (rc : Nat), .string tree] 73 (0, 0)) := by rw [← hwd]; exact heap_alloc_new w _
  have keep : ∀ w', Below w.heap.size w w' → w'.cell? ⟨g, 0, none⟩ = some (.slice (some ⟨pg, off, none⟩) n cap) ∧ w'.cell? ⟨g, 34, none⟩ = some (.int .i64 s.pos) ∧ w'.cell? ⟨pg, off + s.pos * 5, none⟩ = some (.int .i64 (2)) ∧ w'.cell? ⟨pg, off + s.pos * 5 + 1, none⟩ = some (.int .i64 (ra : Nat)) ∧
      w'.cell? ⟨pg, off + s.pos * 5 + 2, none⟩ = some (.int .i64 (rb : Nat)) ∧ w'.cell? ⟨pg, off + s.pos * 5 + 3, none⟩ = some (.int .i64 (rc : Nat)) ∧ w'.cell? ⟨pg, off + s.pos * 5 + 4, none⟩ = some (.string tree) := fun w' hb => by
    refine ⟨(hb.cell (p := ⟨g, 0, none⟩) hlt).trans c0, (hb.cell (p := ⟨g, 34, none⟩) hlt).trans c34, (hb.cell (p := ⟨pg, off + s.pos * 5, none⟩) (by show pg < _; omega)).trans p0, (hb.cell (p := ⟨pg, off + s.pos * 5 + 1, none⟩) (by show pg < _; omega)).trans p1, (hb.cell (p := ⟨pg, off + s.pos * 5 + 2, none⟩) (by show pg < _; omega)).trans p2, (hb.cell (p := ⟨pg, off + s.pos * 5 + 3, none⟩) (by show pg < _; omega)).trans p3, (hb.cell (p := ⟨pg, off + s.pos * 5 + 4, none⟩) (by show pg < _; omega)).trans p4⟩
  have hmd := hm.kept hbd
  obtain ⟨d0, d1, d34, dr, df⟩ := hmd.cells h32
  have e0 := (block_cells hbox).1 0
  have e1 := (block_cells hbox).1 1
  have e2 := (block_cells hbox).1 2
  have e3 := (block_cells hbox).1 3
  simp only [List.getElem?_toArray, List.getElem?_cons_zero, List.getElem?_cons_succ] at e0 e1 e2 e3
  have hbl : w.heap.size < wd.heap.size := (Array.getElem?_eq_some_iff.1 hbox).1
  have HMD := Lib.hid hmd
  clear hmd hbox
  have ib0 : (0 : Int) ≤ (rb : Int) := Int.natCast_nonneg _
  have ib1 : (rb : Int) < 32 := by omega
  have ic0 : (0 : Int) ≤ (rc : Int) := Int.natCast_nonneg _
  have ic1 : (rc : Int) < 32 := by omega
  obtain ⟨qb, fb, nb⟩ := dr rb t ht
  obtain ⟨qc, fc, nc⟩ := dr rc u hu
  have h1 := Lib.hid (hg.2.2 _ (List.mem_of_getElem? ht))
  have h2 := Lib.hid (hg.2.2 _ (List.mem_of_getElem? hu))

  clear hm hg hl hx hn' hxs hown hr hle hpg
  go_enter Try.func86, Try.ntmps86
  go_wp2
  go_region_held3 (fun w' => w'.cell? ⟨g, 0, none⟩ = some (.slice (some ⟨pg, off, none⟩) n cap) ∧ w'.cell? ⟨g, 34, none⟩ = some (.int .i64 s.pos) ∧ w'.cell? ⟨pg, off + s.pos * 5, none⟩ = some (.int .i64 (2)) ∧ w'.cell? ⟨pg, off + s.pos * 5 + 1, none⟩ = some (.int .i64 (ra : Nat)) ∧
      w'.cell? ⟨pg, off + s.pos * 5 + 2, none⟩ = some (.int .i64 (rb : Nat)) ∧ w'.cell? ⟨pg, off + s.pos * 5 + 3, none⟩ = some (.int .i64 (rc : Nat)) ∧ w'.cell? ⟨pg, off + s.pos * 5 + 4, none⟩ = some (.string tree))
    (exact keep _ (by first | exact hbd | exact (Below.refl _ _).drew | exact ((Below.refl _ _).drew).alloc (Nat.le_refl _) _))
    (fail)
  try rw [hwd]
  clear keep hwd p0 p1 p2 p3 p4 c0 c1 c34
  have HNB := Lib.hid nb
  have HNC := Lib.hid nc
  have kc : ∀ w', Below wd.heap.size wd w' → Calls Try.prog 98 #[.pointer qb, .pointer qc] w' fun e w'' => ∃ p, e = .returned (.tuple #[.pointer p, .bool true]) ∧ NodeP 138 w'' (.pair t u) (.pointer p) ∧ Below wd.heap.size wd w'' := fun w' hb' => by
    refine (nodeCons_ok t u _ _ w' (HNB.out.kept (Kept.below hb')) (HNC.out.kept (Kept.below hb')) hsz).mono ?_
    rintro e w'' ⟨p, he, hp, hb2⟩
    exact ⟨p, he, hp, hb'.trans (hb2.mono hb'.size)⟩
  have keep2 : ∀ w', Below wd.heap.size wd w' → w'.cell? ⟨w.heap.size, 2, none⟩ = some (.int .i64 (rb : Nat)) ∧ w'.cell? ⟨w.heap.size, 3, none⟩ = some (.int .i64 (rc : Nat)) ∧ w'.cell? ⟨g, 2 + rb, none⟩ = some (.pointer qb) ∧ w'.cell? ⟨g, 2 + rc, none⟩ = some (.pointer qc) := fun w' hb' =>
    ⟨(hb'.cell (p := ⟨w.heap.size, 2, none⟩) hbl).trans e2, (hb'.cell (p := ⟨w.heap.size, 3, none⟩) hbl).trans e3, (hb'.cell (p := ⟨g, 2 + rb, none⟩) (by show g < _; omega)).trans fb, (hb'.cell (p := ⟨g, 2 + rc, none⟩) (by show g < _; omega)).trans fc⟩
  clear dr df nb nc hsz
  go_wp2
  go_region_held3 (fun w' => w'.cell? ⟨w.heap.size, 2, none⟩ = some (.int .i64 (rb : Nat)) ∧ w'.cell? ⟨w.heap.size, 3, none⟩ = some (.int .i64 (rc : Nat)) ∧ w'.cell? ⟨g, 2 + rb, none⟩ = some (.pointer qb) ∧ w'.cell? ⟨g, 2 + rc, none⟩ = some (.pointer qc))
    (exact keep2 _ (by first | exact (Below.refl _ _) | exact (Below.refl _ _).drew | exact hb2 | exact hb2.drew))
    ((refine (kc _ (by first | exact Below.refl _ _ | exact (Below.refl _ _).drew)).mono ?_; rintro e w2 ⟨xq, rfl, hnx, hb2⟩))
  all_goals
    have hmd2 := HMD.out.kept hb2
    obtain ⟨_, _, k34, kr, kf⟩ := hmd2.cells h32
    obtain ⟨ta, hta⟩ : ∃ t, s.regs[ra]? = some t := ⟨_, List.getElem?_eq_getElem (by omega)⟩
    obtain ⟨qa, fa, na⟩ := kr ra ta hta
    have za := kf (2 + ra)
    have k34f := kf 34
    have ia0 : (0 : Int) ≤ (ra : Int) := Int.natCast_nonneg _
    have ia1 : (ra : Int) < 32 := by omega
    have b1 := (hb2.cell (p := ⟨w.heap.size, 1, none⟩) hbl).trans e1
    have HM2 := Lib.hid hmd2
    have HNX := Lib.hid hnx
    have hbe := hbd.trans (hb2.mono hbd.size)
    clear kr kf hmd2 keep2 kc e0 e1 e2 e3 d0 d1 d34 hnx na hta hb2
    try clear fb fc
    go_wp2
    go_region
    go_wp2
    go_ret
    refine StepOk.mk' rfl ?_
    first
    | exact step_fin_drew (step_fin HM2.out h32 (Els.of_below hbe) ra ha HNX.out)
    | exact step_fin (HM2.out.kept (Below.refl _ _).drew) h32 (Els.of_below hbe.drew) ra ha (HNX.out.kept (Kept.refl _ _).drew)

set_option maxRecDepth 20000 in
set_option maxHeartbeats 4000000 in
theorem step_cons_big (w : World) (B g : Nat) (l : List Ins) (s : St) (pv sv : Value) (ps : List Value) (hm : MachP w B g l s pv sv ps) (hg : Good l.length s) (hn4 : l.length ≤ 4000) (ra : Nat) (ha : ra < 32) (rb : Nat) (hb : rb < 32) (rc : Nat) (hc : rc < 32) (t : Tr) (ht : s.regs[rb]? = some t) (u : Tr) (hu : s.regs[rc]? = some u) (tree : ByteArray) (hsz : 2000000 < (Tr.pair t u).size)
    (hx : l[s.pos]? = some ⟨2, (ra : Nat), (rb : Nat), (rc : Nat), tree⟩) :
    Calls Try.prog 86 #[.pointer (some ⟨g, 0, none⟩)] w (fun e w' => e = .returned (.bool false) ∧ MachP w' B g l s pv sv ps ∧ Els g w w') := by
  have hp : s.pos < l.length := (List.getElem?_eq_some_iff.1 hx).1
  obtain ⟨ao, cap, rfl⟩ := hm.prog.len
  obtain ⟨c0, c1, c34, hr, hf⟩ := hm.cells hg.2.1
  have hl := hm.prog
  have hlt := hm.lt
  have hle := hm.le
  obtain ⟨xs, hxs, hown⟩ := hm.sets
  obtain ⟨n, hn'⟩ : ∃ n, l.length = n := ⟨_, rfl⟩
  rw [hn'] at hl c0 hp hn4 hown
  obtain ⟨pg, off, rfl, hpg, p0, p1, p2, p3, p4⟩ := hl.get hx
  dsimp only at p0 p1 p2 p3 p4
  have h32 := hg.2.1
  have HX := Lib.hid hx
  have HN := Lib.hid hn'
  have HM := Lib.hid hm
  have hi0 : (0 : Int) ≤ (s.pos : Int) := Int.natCast_nonneg _
  have hi1 : (s.pos : Int) < (n : Int) := by omega
  obtain ⟨wd, hwd⟩ : ∃ wd, (w.alloc (.cells #[.int .i64 (2), .int .i64 (ra : Nat), .int .i64 (rb : Nat), .int .i64 (rc : Nat), .string tree] 73)).drew = wd := ⟨_, rfl⟩
  have hbd : Below w.heap.size w wd := by rw [← hwd]; exact ((Below.refl _ _).alloc (Nat.le_refl _) _).drew
  have hbox : wd.heap[w.heap.size]? = some (.cells #[.int .i64 (2), .int .i64 (ra : Nat), .int .i64 (rb : Nat), .int .i64 (rc : Nat), .string tree] 73 (0, 0)) := by rw [← hwd]; exact heap_alloc_new w _
  have keep : ∀ w', Below w.heap.size w w' → w'.cell? ⟨g, 0, none⟩ = some (.slice (some ⟨pg, off, none⟩) n cap) ∧ w'.cell? ⟨g, 34, none⟩ = some (.int .i64 s.pos) ∧ w'.cell? ⟨pg, off + s.pos * 5, none⟩ = some (.int .i64 (2)) ∧ w'.cell? ⟨pg, off + s.pos * 5 + 1, none⟩ = some (.int .i64 (ra : Nat)) ∧
      w'.cell? ⟨pg, off + s.pos * 5 + 2, none⟩ = some (.int .i64 (rb : Nat)) ∧ w'.cell? ⟨pg, off + s.pos * 5 + 3, none⟩ = some (.int .i64 (rc : Nat)) ∧ w'.cell? ⟨pg, off + s.pos * 5 + 4, none⟩ = some (.string tree) := fun w' hb => by
    refine ⟨(hb.cell (p := ⟨g, 0, none⟩) hlt).trans c0, (hb.cell (p := ⟨g, 34, none⟩) hlt).trans c34, (hb.cell (p := ⟨pg, off + s.pos * 5, none⟩) (by show pg < _; omega)).trans p0, (hb.cell (p := ⟨pg, off + s.pos * 5 + 1, none⟩) (by show pg < _; omega)).trans p1, (hb.cell (p := ⟨pg, off + s.pos * 5 + 2, none⟩) (by show pg < _; omega)).trans p2, (hb.cell (p := ⟨pg, off + s.pos * 5 + 3, none⟩) (by show pg < _; omega)).trans p3, (hb.cell (p := ⟨pg, off + s.pos * 5 + 4, none⟩) (by show pg < _; omega)).trans p4⟩
  have hmd := hm.kept hbd
  obtain ⟨d0, d1, d34, dr, df⟩ := hmd.cells h32
  have e0 := (block_cells hbox).1 0
  have e1 := (block_cells hbox).1 1
  have e2 := (block_cells hbox).1 2
  have e3 := (block_cells hbox).1 3
  simp only [List.getElem?_toArray, List.getElem?_cons_zero, List.getElem?_cons_succ] at e0 e1 e2 e3
  have hbl : w.heap.size < wd.heap.size := (Array.getElem?_eq_some_iff.1 hbox).1
  have HMD := Lib.hid hmd
  clear hmd hbox
  have ib0 : (0 : Int) ≤ (rb : Int) := Int.natCast_nonneg _
  have ib1 : (rb : Int) < 32 := by omega
  have ic0 : (0 : Int) ≤ (rc : Int) := Int.natCast_nonneg _
  have ic1 : (rc : Int) < 32 := by omega
  obtain ⟨qb, fb, nb⟩ := dr rb t ht
  obtain ⟨qc, fc, nc⟩ := dr rc u hu
  have h1 := Lib.hid (hg.2.2 _ (List.mem_of_getElem? ht))
  have h2 := Lib.hid (hg.2.2 _ (List.mem_of_getElem? hu))

  clear hm hg hl hx hn' hxs hown hr hle hpg
  go_enter Try.func86, Try.ntmps86
  go_wp2
  go_region_held3 (fun w' => w'.cell? ⟨g, 0, none⟩ = some (.slice (some ⟨pg, off, none⟩) n cap) ∧ w'.cell? ⟨g, 34, none⟩ = some (.int .i64 s.pos) ∧ w'.cell? ⟨pg, off + s.pos * 5, none⟩ = some (.int .i64 (2)) ∧ w'.cell? ⟨pg, off + s.pos * 5 + 1, none⟩ = some (.int .i64 (ra : Nat)) ∧
      w'.cell? ⟨pg, off + s.pos * 5 + 2, none⟩ = some (.int .i64 (rb : Nat)) ∧ w'.cell? ⟨pg, off + s.pos * 5 + 3, none⟩ = some (.int .i64 (rc : Nat)) ∧ w'.cell? ⟨pg, off + s.pos * 5 + 4, none⟩ = some (.string tree))
    (exact keep _ (by first | exact hbd | exact (Below.refl _ _).drew | exact ((Below.refl _ _).drew).alloc (Nat.le_refl _) _))
    (fail)
  try rw [hwd]
  clear keep hwd p0 p1 p2 p3 p4 c0 c1 c34
  have HNB := Lib.hid nb
  have HNC := Lib.hid nc
  have kc : ∀ w', Below wd.heap.size wd w' → Calls Try.prog 98 #[.pointer qb, .pointer qc] w' fun e w'' => e = .returned (.tuple #[.pointer none, .bool false]) ∧ w' = w'' := fun w' hb' =>
    nodeCons_big t u _ _ w' (HNB.out.kept (Kept.below hb')) (HNC.out.kept (Kept.below hb')) h1.out h2.out hsz
  have keep2 : ∀ w', Below wd.heap.size wd w' → w'.cell? ⟨w.heap.size, 2, none⟩ = some (.int .i64 (rb : Nat)) ∧ w'.cell? ⟨w.heap.size, 3, none⟩ = some (.int .i64 (rc : Nat)) ∧ w'.cell? ⟨g, 2 + rb, none⟩ = some (.pointer qb) ∧ w'.cell? ⟨g, 2 + rc, none⟩ = some (.pointer qc) := fun w' hb' =>
    ⟨(hb'.cell (p := ⟨w.heap.size, 2, none⟩) hbl).trans e2, (hb'.cell (p := ⟨w.heap.size, 3, none⟩) hbl).trans e3, (hb'.cell (p := ⟨g, 2 + rb, none⟩) (by show g < _; omega)).trans fb, (hb'.cell (p := ⟨g, 2 + rc, none⟩) (by show g < _; omega)).trans fc⟩
  clear dr df nb nc hsz
  go_wp2
  go_region_held3 (fun w' => w'.cell? ⟨w.heap.size, 2, none⟩ = some (.int .i64 (rb : Nat)) ∧ w'.cell? ⟨w.heap.size, 3, none⟩ = some (.int .i64 (rc : Nat)) ∧ w'.cell? ⟨g, 2 + rb, none⟩ = some (.pointer qb) ∧ w'.cell? ⟨g, 2 + rc, none⟩ = some (.pointer qc))
    (exact keep2 _ (by first | exact (Below.refl _ _) | exact (Below.refl _ _).drew))
    ((refine (kc _ (by first | exact Below.refl _ _ | exact (Below.refl _ _).drew)).mono ?_; rintro e w2 ⟨rfl, rfl⟩))
  all_goals
    go_wp2
    go_ret
    exact ⟨rfl, HMD.out.kept (Below.refl _ _).drew, Els.of_below hbd.drew⟩

end Go.Proofs.Ytieocihlkpipmaa

namespace Go.Proofs.Ytieocihlkpipmaa
open Go.RowKit

theorem step_jfin {w wd : World} {B g : Nat} {l : List Ins} {s : St} {pv sv : Value} {ps : List Value} (hm : MachP wd B g l s pv sv ps) (h32 : s.regs.length = 32) (hb : Els g w wd) (z : Int) (p : Nat) (hz : z = p) :
    ∃ ps', MachP (wd.setCell ⟨g, 34, none⟩ (.int .i64 z)) B g l ⟨p, s.regs⟩ pv sv ps' ∧ Els g w (wd.setCell ⟨g, 34, none⟩ (.int .i64 z)) := by
  subst hz
  exact ⟨_, hm.setPos h32 p, hb.set _ _⟩

set_option maxRecDepth 20000 in
set_option maxHeartbeats 4000000 in
theorem step_jump_no (w : World) (B g : Nat) (l : List Ins) (s : St) (pv sv : Value) (ps : List Value) (hm : MachP w B g l s pv sv ps) (hg : Good l.length s) (hn4 : l.length ≤ 4000) (ra : Nat) (ha : ra < 32) (t : Tr) (ht : s.regs[ra]? = some t) (htn : t = .nil) (b c : Int) (tree : ByteArray) (hb1 : -(s.pos : Int) ≤ b) (hb2 : b ≤ (l.length : Int) - s.pos)
    (hx : l[s.pos]? = some ⟨5, (ra : Nat), b, c, tree⟩) :
    Calls Try.prog 86 #[.pointer (some ⟨g, 0, none⟩)] w (StepOk w B g l ⟨s.pos + 1, s.regs⟩ pv sv) := by
  have hp : s.pos < l.length := (List.getElem?_eq_some_iff.1 hx).1
  obtain ⟨ao, cap, rfl⟩ := hm.prog.len
  obtain ⟨c0, c1, c34, hr, hf⟩ := hm.cells hg.2.1
  have hl := hm.prog
  have hlt := hm.lt
  have hle := hm.le
  obtain ⟨xs, hxs, hown⟩ := hm.sets
  obtain ⟨n, hn'⟩ : ∃ n, l.length = n := ⟨_, rfl⟩
  rw [hn'] at hl c0 hp hn4 hown
  obtain ⟨pg, off, rfl, hpg, p0, p1, p2, p3, p4⟩ := hl.get hx
  dsimp only at p0 p1 p2 p3 p4
  have h32 := hg.2.1
  have HX := Lib.hid hx
  have HN := Lib.hid hn'
  have HM := Lib.hid hm
  have hi0 : (0 : Int) ≤ (s.pos : Int) := Int.natCast_nonneg _
  have hi1 : (s.pos : Int) < (n : Int) := by omega
  obtain ⟨wd, hwd⟩ : ∃ wd, (w.alloc (.cells #[.int .i64 (5), .int .i64 (ra : Nat), .int .i64 (b), .int .i64 (c), .string tree] 73)).drew = wd := ⟨_, rfl⟩
  have hbd : Below w.heap.size w wd := by rw [← hwd]; exact ((Below.refl _ _).alloc (Nat.le_refl _) _).drew
  have hbox : wd.heap[w.heap.size]? = some (.cells #[.int .i64 (5), .int .i64 (ra : Nat), .int .i64 (b), .int .i64 (c), .string tree] 73 (0, 0)) := by rw [← hwd]; exact heap_alloc_new w _
  have keep : ∀ w', Below w.heap.size w w' → w'.cell? ⟨g, 0, none⟩ = some (.slice (some ⟨pg, off, none⟩) n cap) ∧ w'.cell? ⟨g, 34, none⟩ = some (.int .i64 s.pos) ∧ w'.cell? ⟨pg, off + s.pos * 5, none⟩ = some (.int .i64 (5)) ∧ w'.cell? ⟨pg, off + s.pos * 5 + 1, none⟩ = some (.int .i64 (ra : Nat)) ∧
      w'.cell? ⟨pg, off + s.pos * 5 + 2, none⟩ = some (.int .i64 (b)) ∧ w'.cell? ⟨pg, off + s.pos * 5 + 3, none⟩ = some (.int .i64 (c)) ∧ w'.cell? ⟨pg, off + s.pos * 5 + 4, none⟩ = some (.string tree) := fun w' hb => by
    refine ⟨(hb.cell (p := ⟨g, 0, none⟩) hlt).trans c0, (hb.cell (p := ⟨g, 34, none⟩) hlt).trans c34, (hb.cell (p := ⟨pg, off + s.pos * 5, none⟩) (by show pg < _; omega)).trans p0, (hb.cell (p := ⟨pg, off + s.pos * 5 + 1, none⟩) (by show pg < _; omega)).trans p1, (hb.cell (p := ⟨pg, off + s.pos * 5 + 2, none⟩) (by show pg < _; omega)).trans p2, (hb.cell (p := ⟨pg, off + s.pos * 5 + 3, none⟩) (by show pg < _; omega)).trans p3, (hb.cell (p := ⟨pg, off + s.pos * 5 + 4, none⟩) (by show pg < _; omega)).trans p4⟩
  have hmd := hm.kept hbd
  obtain ⟨d0, d1, d34, dr, df⟩ := hmd.cells h32
  have e0 := (block_cells hbox).1 0
  have e1 := (block_cells hbox).1 1
  have e2 := (block_cells hbox).1 2
  have e3 := (block_cells hbox).1 3
  simp only [List.getElem?_toArray, List.getElem?_cons_zero, List.getElem?_cons_succ] at e0 e1 e2 e3
  have hbl : w.heap.size < wd.heap.size := (Array.getElem?_eq_some_iff.1 hbox).1
  have HMD := Lib.hid hmd
  clear hmd hbox
  obtain ⟨qa, fa, na⟩ := dr ra t ht
  rw [hn'] at hb2
  have ia0 : (0 : Int) ≤ (ra : Int) := Int.natCast_nonneg _
  have ia1 : (ra : Int) < 32 := by omega

  clear hm hg hl hx hn' hxs hown hr hle hpg
  go_enter Try.func86, Try.ntmps86
  go_wp2
  go_region_held3 (fun w' => w'.cell? ⟨g, 0, none⟩ = some (.slice (some ⟨pg, off, none⟩) n cap) ∧ w'.cell? ⟨g, 34, none⟩ = some (.int .i64 s.pos) ∧ w'.cell? ⟨pg, off + s.pos * 5, none⟩ = some (.int .i64 (5)) ∧ w'.cell? ⟨pg, off + s.pos * 5 + 1, none⟩ = some (.int .i64 (ra : Nat)) ∧
      w'.cell? ⟨pg, off + s.pos * 5 + 2, none⟩ = some (.int .i64 (b)) ∧ w'.cell? ⟨pg, off + s.pos * 5 + 3, none⟩ = some (.int .i64 (c)) ∧ w'.cell? ⟨pg, off + s.pos * 5 + 4, none⟩ = some (.string tree))
    (exact keep _ (by first | exact hbd | exact (Below.refl _ _).drew | exact ((Below.refl _ _).drew).alloc (Nat.le_refl _) _))
    (fail)
  try rw [hwd]
  clear keep hwd p0 p1 p2 p3 p4 c0 c1 c34
  subst htn
  have hq : qa = none := by have : Value.pointer qa = .pointer none := na; simpa using this
  subst hq
  have df34 := df 34
  clear dr df na ht
  have hnI : (n : Int) ≤ 4000 := by omega
  go_wp2
  go_quiet (fail)
  go_wp2
  go_ret
  refine StepOk.mk' rfl ?_
  have hq1 := below_drewN (Below.refl wd.heap.size wd) nq
  exact step_jfin (HMD.out.kept hq1) h32 (Els.of_below (hbd.trans (hq1.mono hbd.size))) _ _ (by omega)

set_option maxRecDepth 20000 in
set_option maxHeartbeats 4000000 in
theorem step_jump_go (w : World) (B g : Nat) (l : List Ins) (s : St) (pv sv : Value) (ps : List Value) (hm : MachP w B g l s pv sv ps) (hg : Good l.length s) (hn4 : l.length ≤ 4000) (ra : Nat) (ha : ra < 32) (t : Tr) (ht : s.regs[ra]? = some t) (htn : t ≠ .nil) (b c : Int) (tree : ByteArray) (hb1 : -(s.pos : Int) ≤ b) (hb2 : b ≤ (l.length : Int) - s.pos)
    (hx : l[s.pos]? = some ⟨5, (ra : Nat), b, c, tree⟩) :
    Calls Try.prog 86 #[.pointer (some ⟨g, 0, none⟩)] w (StepOk w B g l ⟨((s.pos : Int) + b).toNat, s.regs⟩ pv sv) := by
  have hp : s.pos < l.length := (List.getElem?_eq_some_iff.1 hx).1
  obtain ⟨ao, cap, rfl⟩ := hm.prog.len
  obtain ⟨c0, c1, c34, hr, hf⟩ := hm.cells hg.2.1
  have hl := hm.prog
  have hlt := hm.lt
  have hle := hm.le
  obtain ⟨xs, hxs, hown⟩ := hm.sets
  obtain ⟨n, hn'⟩ : ∃ n, l.length = n := ⟨_, rfl⟩
  rw [hn'] at hl c0 hp hn4 hown
  obtain ⟨pg, off, rfl, hpg, p0, p1, p2, p3, p4⟩ := hl.get hx
  dsimp only at p0 p1 p2 p3 p4
  have h32 := hg.2.1
  have HX := Lib.hid hx
  have HN := Lib.hid hn'
  have HM := Lib.hid hm
  have hi0 : (0 : Int) ≤ (s.pos : Int) := Int.natCast_nonneg _
  have hi1 : (s.pos : Int) < (n : Int) := by omega
  obtain ⟨wd, hwd⟩ : ∃ wd, (w.alloc (.cells #[.int .i64 (5), .int .i64 (ra : Nat), .int .i64 (b), .int .i64 (c), .string tree] 73)).drew = wd := ⟨_, rfl⟩
  have hbd : Below w.heap.size w wd := by rw [← hwd]; exact ((Below.refl _ _).alloc (Nat.le_refl _) _).drew
  have hbox : wd.heap[w.heap.size]? = some (.cells #[.int .i64 (5), .int .i64 (ra : Nat), .int .i64 (b), .int .i64 (c), .string tree] 73 (0, 0)) := by rw [← hwd]; exact heap_alloc_new w _
  have keep : ∀ w', Below w.heap.size w w' → w'.cell? ⟨g, 0, none⟩ = some (.slice (some ⟨pg, off, none⟩) n cap) ∧ w'.cell? ⟨g, 34, none⟩ = some (.int .i64 s.pos) ∧ w'.cell? ⟨pg, off + s.pos * 5, none⟩ = some (.int .i64 (5)) ∧ w'.cell? ⟨pg, off + s.pos * 5 + 1, none⟩ = some (.int .i64 (ra : Nat)) ∧
      w'.cell? ⟨pg, off + s.pos * 5 + 2, none⟩ = some (.int .i64 (b)) ∧ w'.cell? ⟨pg, off + s.pos * 5 + 3, none⟩ = some (.int .i64 (c)) ∧ w'.cell? ⟨pg, off + s.pos * 5 + 4, none⟩ = some (.string tree) := fun w' hb => by
    refine ⟨(hb.cell (p := ⟨g, 0, none⟩) hlt).trans c0, (hb.cell (p := ⟨g, 34, none⟩) hlt).trans c34, (hb.cell (p := ⟨pg, off + s.pos * 5, none⟩) (by show pg < _; omega)).trans p0, (hb.cell (p := ⟨pg, off + s.pos * 5 + 1, none⟩) (by show pg < _; omega)).trans p1, (hb.cell (p := ⟨pg, off + s.pos * 5 + 2, none⟩) (by show pg < _; omega)).trans p2, (hb.cell (p := ⟨pg, off + s.pos * 5 + 3, none⟩) (by show pg < _; omega)).trans p3, (hb.cell (p := ⟨pg, off + s.pos * 5 + 4, none⟩) (by show pg < _; omega)).trans p4⟩
  have hmd := hm.kept hbd
  obtain ⟨d0, d1, d34, dr, df⟩ := hmd.cells h32
  have e0 := (block_cells hbox).1 0
  have e1 := (block_cells hbox).1 1
  have e2 := (block_cells hbox).1 2
  have e3 := (block_cells hbox).1 3
  simp only [List.getElem?_toArray, List.getElem?_cons_zero, List.getElem?_cons_succ] at e0 e1 e2 e3
  have hbl : w.heap.size < wd.heap.size := (Array.getElem?_eq_some_iff.1 hbox).1
  have HMD := Lib.hid hmd
  clear hmd hbox
  obtain ⟨qa, fa, na⟩ := dr ra t ht
  rw [hn'] at hb2
  have ia0 : (0 : Int) ≤ (ra : Int) := Int.natCast_nonneg _
  have ia1 : (ra : Int) < 32 := by omega

  clear hm hg hl hx hn' hxs hown hr hle hpg
  go_enter Try.func86, Try.ntmps86
  go_wp2
  go_region_held3 (fun w' => w'.cell? ⟨g, 0, none⟩ = some (.slice (some ⟨pg, off, none⟩) n cap) ∧ w'.cell? ⟨g, 34, none⟩ = some (.int .i64 s.pos) ∧ w'.cell? ⟨pg, off + s.pos * 5, none⟩ = some (.int .i64 (5)) ∧ w'.cell? ⟨pg, off + s.pos * 5 + 1, none⟩ = some (.int .i64 (ra : Nat)) ∧
      w'.cell? ⟨pg, off + s.pos * 5 + 2, none⟩ = some (.int .i64 (b)) ∧ w'.cell? ⟨pg, off + s.pos * 5 + 3, none⟩ = some (.int .i64 (c)) ∧ w'.cell? ⟨pg, off + s.pos * 5 + 4, none⟩ = some (.string tree))
    (exact keep _ (by first | exact hbd | exact (Below.refl _ _).drew | exact ((Below.refl _ _).drew).alloc (Nat.le_refl _) _))
    (fail)
  try rw [hwd]
  clear keep hwd p0 p1 p2 p3 p4 c0 c1 c34
  obtain ⟨qg, hq⟩ : ∃ qg, qa = some ⟨qg, 0, none⟩ := by
    cases t with
    | nil => exact absurd rfl htn
    | pair a1 a2 => obtain ⟨g1, x1, y1, hv1, _⟩ := na; simp only [Value.pointer.injEq] at hv1; exact ⟨g1, hv1⟩
  subst hq
  have hpb : (s.pos : Int) + b = (((s.pos : Int) + b).toNat : Int) := by omega
  have hpb2 : (0 : Int) ≤ (s.pos : Int) + b := by omega
  have hpb3 : (s.pos : Int) + b ≤ n := by omega
  have HPB := Lib.hid hpb
  clear hpb
  have df34 := df 34
  clear dr df na ht
  have hnI : (n : Int) ≤ 4000 := by omega
  go_wp2
  go_quiet (fail)
  go_wp2
  go_ret
  refine StepOk.mk' rfl ?_
  have hq1 := below_drewN (Below.refl wd.heap.size wd) nq
  exact step_jfin (HMD.out.kept hq1) h32 (Els.of_below (hbd.trans (hq1.mono hbd.size))) _ _ HPB.out

end Go.Proofs.Ytieocihlkpipmaa

namespace Go.Proofs.Ytieocihlkpipmaa
open Go.RowKit

/-- What a step leaves. -/
def StepOut (w : World) (B g : Nat) (l : List Ins) (s : St) (pv sv : Value) (ps : List Value) (e : Ending) (w' : World) : Prop :=
  match stepP l s with
  | some s' => StepOk w B g l s' pv sv e w'
  | none => e = .returned (.bool false) ∧ MachP w' B g l s pv sv ps ∧ Els g w w'

theorem regB_nat {a : Int} (h : regB a = true) : ∃ r : Nat, a = r ∧ r < 32 := by
  unfold regB at h
  simp only [Bool.and_eq_true, decide_eq_true_eq] at h
  exact ⟨a.toNat, by omega, by omega⟩
theorem getR_nat {rs : List Tr} {r : Nat} {t : Tr} (h : rs[r]? = some t) : getR rs (r : Int) = t := by unfold getR; simp [h]

theorem step_any (w : World) (B g : Nat) (l : List Ins) (s : St) (pv sv : Value) (ps : List Value) (hm : MachP w B g l s pv sv ps) (hg : Good l.length s) (hv : rightAll l = true) (hp : s.pos < l.length) (hn4 : l.length ≤ 4000) :
    Calls Try.prog 86 #[.pointer (some ⟨g, 0, none⟩)] w (StepOut w B g l s pv sv ps) := by
  obtain ⟨x, hx⟩ : ∃ x, l[s.pos]? = some x := ⟨_, List.getElem?_eq_getElem hp⟩
  have hr := rightAll_get hv hx
  unfold StepOut stepP
  rw [hx]
  dsimp only
  obtain ⟨op, a, b, c, tree⟩ := x
  unfold rightB at hr
  simp only [Bool.and_eq_true] at hr
  obtain ⟨⟨⟨ha, h1⟩, h2⟩, h3⟩ := hr
  obtain ⟨ra, rfl, hra⟩ := regB_nat ha
  have gt : ∀ r : Nat, r < 32 → ∃ t, s.regs[r]? = some t := fun r h => ⟨_, List.getElem?_eq_getElem (by rw [hg.2.1]; exact h)⟩
  obtain ⟨ta, hta⟩ := gt ra hra
  unfold stepX
  dsimp only
  by_cases o0 : op = 0
  · subst o0
    simp only [if_true, setR, Int.toNat_natCast]
    exact step_set w B g l s pv sv ps hm hg hn4 ra hra b c tree hx
  · rw [if_neg o0] at h3 ⊢
    by_cases o1 : op = 1
    · subst o1
      rw [if_pos (.inl rfl)] at h3
      obtain ⟨rb, rfl, hrb⟩ := regB_nat h3
      obtain ⟨t, ht⟩ := gt rb hrb
      simp only [if_true, setR, Int.toNat_natCast, getR_nat ht]
      exact step_move w B g l s pv sv ps hm hg hn4 ra hra rb hrb t ht c tree hx
    · rw [if_neg o1]
      by_cases o2 : op = 2
      · subst o2
        rw [if_neg (by omega), if_pos rfl] at h3
        simp only [Bool.and_eq_true] at h3
        obtain ⟨rb, rfl, hrb⟩ := regB_nat h3.1
        obtain ⟨rc, rfl, hrc⟩ := regB_nat h3.2
        obtain ⟨t, ht⟩ := gt rb hrb
        obtain ⟨u, hu⟩ := gt rc hrc
        simp only [if_true, setR, Int.toNat_natCast, getR_nat ht, getR_nat hu]
        by_cases hsz : (Tr.pair t u).size ≤ 2000000
        · rw [if_pos hsz]
          exact step_cons_ok w B g l s pv sv ps hm hg hn4 ra hra rb hrb rc hrc t ht u hu tree hsz hx
        · rw [if_neg hsz]
          exact step_cons_big w B g l s pv sv ps hm hg hn4 ra hra rb hrb rc hrc t ht u hu tree (by omega) hx
      · rw [if_neg o2]
        by_cases o3 : op = 3
        · subst o3
          rw [if_pos (.inr (.inl rfl))] at h3
          obtain ⟨rb, rfl, hrb⟩ := regB_nat h3
          obtain ⟨t, ht⟩ := gt rb hrb
          simp only [if_true, setR, Int.toNat_natCast, getR_nat ht]
          exact step_head w B g l s pv sv ps hm hg hn4 ra hra rb hrb t ht c tree hx
        · rw [if_neg o3]
          by_cases o4 : op = 4
          · subst o4
            rw [if_pos (.inr (.inr rfl))] at h3
            obtain ⟨rb, rfl, hrb⟩ := regB_nat h3
            obtain ⟨t, ht⟩ := gt rb hrb
            simp only [if_true, setR, Int.toNat_natCast, getR_nat ht]
            exact step_tail w B g l s pv sv ps hm hg hn4 ra hra rb hrb t ht c tree hx
          · rw [if_neg o4]
            rw [if_neg (by omega), if_neg o2] at h3
            by_cases o5 : op = 5
            · subst o5
              rw [if_pos rfl] at h3
              simp only [Bool.and_eq_true, decide_eq_true_eq] at h3
              rw [getR_nat hta]
              by_cases hn : ta = .nil
              · rw [if_pos hn]
                exact step_jump_no w B g l s pv sv ps hm hg hn4 ra hra ta hta hn b c tree h3.1 h3.2 hx
              · rw [if_neg hn]
                exact step_jump_go w B g l s pv sv ps hm hg hn4 ra hra ta hta hn b c tree h3.1 h3.2 hx
            · rw [if_neg o5] at h3; cases h3

end Go.Proofs.Ytieocihlkpipmaa

namespace Go.Proofs.Ytieocihlkpipmaa
open Go.RowKit

/-- How a run goes: it ends, the fuel is used up, a step is too large. -/
inductive Res where
  | done (s : St) (n : Nat)
  | fuel (s : St) (n : Nat)
  | big
def goF (l : List Ins) : Nat → Nat → St → Res
  | f, n, s => if s.pos = l.length then .done s n else match f with
    | 0 => .fuel s n
    | f + 1 => match stepP l s with
      | none => .big
      | some s' => goF l f (n + 1) s'
theorem goF_done {l : List Ins} {f n : Nat} {s : St} (h : s.pos = l.length) : goF l f n s = .done s n := by unfold goF; rw [if_pos h]
theorem goF_zero {l : List Ins} {n : Nat} {s : St} (h : s.pos ≠ l.length) : goF l 0 n s = .fuel s n := by unfold goF; rw [if_neg h]
theorem goF_big {l : List Ins} {f n : Nat} {s : St} (h : s.pos ≠ l.length) (hs : stepP l s = none) : goF l (f + 1) n s = .big := by unfold goF; rw [if_neg h]; simp only [hs]
theorem goF_step {l : List Ins} {f n : Nat} {s s' : St} (h : s.pos ≠ l.length) (hs : stepP l s = some s') : goF l (f + 1) n s = goF l f (n + 1) s' := by
  conv => lhs; unfold goF
  rw [if_neg h]
  simp only [hs]
/-- The k-th state. -/
def stN (l : List Ins) (s : St) : Nat → St
  | 0 => s
  | k + 1 => (stepP l (stN l s k)).getD (stN l s k)
/-- k steps are done. -/
def Reach (l : List Ins) (s : St) (k : Nat) : Prop := ∀ j, j < k → (stN l s j).pos ≠ l.length ∧ stepP l (stN l s j) = some (stN l s (j + 1))
theorem Reach.zero (l : List Ins) (s : St) : Reach l s 0 := fun j h => by omega
theorem stN_succ {l : List Ins} {s s' : St} {k : Nat} (h : stepP l (stN l s k) = some s') : stN l s (k + 1) = s' := by simp [stN, h]
theorem Reach.succ {l : List Ins} {s s' : St} {k : Nat} (h : Reach l s k) (hp : (stN l s k).pos ≠ l.length) (hs : stepP l (stN l s k) = some s') : Reach l s (k + 1) := fun j hj => by
  by_cases e : j < k
  · exact h j e
  · obtain rfl : j = k := by omega
    exact ⟨hp, by rw [stN_succ hs]; exact hs⟩
theorem Reach.goF {l : List Ins} {s : St} : ∀ {k : Nat}, Reach l s k → ∀ f, k ≤ f → goF l f 0 s = Go.Proofs.Ytieocihlkpipmaa.goF l (f - k) k (stN l s k) := by
  intro k
  induction k with
  | zero => intro _ f _; rfl
  | succ k ih =>
    intro h f hf
    obtain ⟨h1, h2⟩ := h k (by omega)
    rw [ih (fun j hj => h j (by omega)) f (by omega), show f - k = (f - (k + 1)) + 1 by omega, goF_step h1 h2]
theorem Reach.good {l : List Ins} {s : St} (hv : rightAll l = true) (hg : Good l.length s) : ∀ {k : Nat}, Reach l s k → Good l.length (stN l s k) := by
  intro k
  induction k with
  | zero => intro _; exact hg
  | succ k ih => intro h; exact (ih (fun j hj => h j (by omega))).step hv (h k (by omega)).2
/-- What Run hands back. -/
def Res.run : Res → ByteArray × Nat × Int
  | .done s n => (TS (getR s.regs 0), n, 0)
  | .fuel _ _ => (⟨#[]⟩, 0, 7)
  | .big => (⟨#[]⟩, 0, 3)

end Go.Proofs.Ytieocihlkpipmaa

namespace Go.Proofs.Ytieocihlkpipmaa
open Go Go.RowKit
variable {F : Fence} {n : Nat} {P : Program}

/-- How the body of a round may be left. -/
def rfPost {α : Type} (I' : α → World → Prop) (Ix : Code → World → Prop) (x : α) (W : World) : Exit → Act → World → Prop
  | .normal, _, W' => KeepsOthers W W' ∧ I' x W'
  | .ret, _, W' => KeepsOthers W W' ∧ Ix .ret W'
  | .exit id, _, W' => KeepsOthers W W' ∧ Ix (.exit id) W'
  | .goto t, _, W' => KeepsOthers W W' ∧ Ix (.goto t) W'
  | .panic _, _, _ => False
  | .outgrown, _, _ => False

/-- What an iterator owes: it asks for rounds where I holds; a round that goes on leaves I', one that does not ends all. -/
def SeqEnds {α : Type} (F : Fence) (n : Nat) (P : Program) (gf : Nat) (lb : Array Value) (encs : α → Array Value) (J0 : World → Prop) (I I' : α → World → Prop) : Prop :=
  ∀ (l : Nat) (Bk Bx : World → Prop), (∀ A B, KeepsOthers A B → Bk A → Bk B) →
    (∀ x W, I x W → Bk W → YieldAt F (n - 1) P l (encs x) W fun e W' => (e = .returned (.bool true) ∧ I' x W' ∧ Bk W') ∨ (e = .returned (.bool false) ∧ Bx W')) →
    ∀ W, J0 W → Bk W → CallsIn F n P gf (#[.func (.yield l) #[] #[]] ++ lb) W fun e W' => (∃ v, e = .returned v) ∧ Bx W'

theorem wpIn_rangeFunc_ends {α : Type} {g : Operand} {ps : Array Tmp} {assign body : Code} {Q : Exit → Act → World → Prop} {a : Act} {w : World}
    (hro : F.round = none) (h1 : 1 ≤ n) {gf : Nat} {lb : Array Value} (hg : a.eval g = .func (.func gf) #[] lb) (hFg : F.fn gf) (eg : ∀ args w, (callFunc gf args).run P w = .ok (.enter gf args) w)
    {encs : α → Array Value} (J0 : World → Prop) (I I' : α → World → Prop) (Ix : Code → World → Prop)
    (hseq : SeqEnds F (n - 1) P gf lb encs J0 I I') (hps : ∀ x, (encs x).size = ps.size)
    (hJ0 : OwnFrom w.heap.size (fun (_ : Unit) => J0)) (hI : OwnFrom w.heap.size I) (hI' : OwnFrom w.heap.size I') (hIx : ∀ c, OwnFrom w.heap.size (fun (_ : Unit) => Ix c)) (h0 : J0 w) (a₁ : α → Act)
    (hassign : ∀ (l : Nat) (x : α) (W : World) (K : Act → World → Prop), K (a₁ x) W →
      assign.wpIn (F.inRound l) (n - 1 - 1) P (Exit.then K (fun _ _ _ => False)) { tmps := (ps.zip (encs x)).foldl (fun t (p, v) => t.setIfInBounds p v) a.tmps, defers := [] } W)
    (hbody : ∀ (l : Nat) (x : α) (W : World), I x W → body.wpIn (F.inRound l) (n - 1 - 1) P (rfPost I' Ix x W) (a₁ x) W)
    (hstop : ∀ (D : Nat) (c : Code) (W : World), w.heap.size ≤ D → Ix c W → W.heap[D]? = some (.deferred (some [])) → c.wpIn F n P Q { a with defers := { target := .collected D, args := #[] } :: a.defers } W) :
    (Code.rangeFunc g ps assign body).wpIn F n P Q a w := by
  refine wpIn_rangeFunc ?_
  intro fn hfn
  rw [hro]
  obtain ⟨rec, hrec⟩ : ∃ rec : LoopState → Option Code → Loop, rec = fun st pe => { state := st, pending := pe, fn, tmps := a.tmps, params := ps, assign, body, defers := w.heap.size } := ⟨_, rfl⟩
  obtain ⟨W1, hW1⟩ : ∃ W1, (w.alloc (.deferred (some []))).alloc (.loop (rec .ready none)) = W1 := ⟨_, rfl⟩
  have hL1 : W1.heap[w.heap.size + 1]? = some (.loop (rec .ready none)) := by
    rw [← hW1]; have := World.alloc_heap_new (w.alloc (.deferred (some []))) (.loop (rec .ready none)); rwa [World.size_alloc] at this
  have hK1 : W1.heap[w.heap.size]? = some (.deferred (some [])) := by
    rw [← hW1]; exact (Below.heap_alloc _ _ _ (by simp)).trans (World.alloc_heap_new w _)
  have hI1 : J0 W1 := by rw [← hW1]; exact OwnFrom.alloc (s := ()) hJ0 _ (OwnFrom.alloc (s := ()) hJ0 _ h0)
  refine ⟨w.heap.size + 1, [{ target := .collected w.heap.size, args := #[] }], W1, { target := .fn (.func gf) lb, args := #[.func (.yield (w.heap.size + 1)) #[] #[]] }, W1, gf,
    #[.func (.yield (w.heap.size + 1)) #[] #[]] ++ lb, W1, ?_, ?_, ?_, ?_, fun _ => h1, ?_⟩
  · rw [← hW1, hrec]; exact run_enterLoop_outer _ _ _ _ _
  · simp only [resolve, hg]
    simp [go_sem]
  · intro f' hf'; simp [Target.leads] at hf'; subst hf'; exact hFg
  · simp [invoke, go_sem, eg]
  · refine (hseq (w.heap.size + 1)
      (fun W => W.heap[w.heap.size + 1]? = some (.loop (rec .ready none)) ∧ W.heap[w.heap.size]? = some (.deferred (some [])))
      (fun W => ∃ c, Ix c W ∧ W.heap[w.heap.size + 1]? = some (.loop (rec .done (some c))) ∧ W.heap[w.heap.size]? = some (.deferred (some [])))
      (fun A B hk h => ⟨hk.same _ _ h.1 rfl, hk.same _ _ h.2 rfl⟩) ?_ W1 hI1 ⟨hL1, hK1⟩).mono ?_
    · -- one round
      rintro x W hi ⟨hl, hk⟩
      have hlt : w.heap.size + 1 < W.heap.size := (Array.getElem?_eq_some_iff.1 hl).1
      have hy := run_yield (P := P) (args := encs x) hl (by rw [hrec]; exact hps x)
      rw [hrec] at hy
      refine ⟨fn, _, assign, body, hy, roundIn_of_wpIn hfn (hassign _ x W _ ⟨_, run_beginRound hl (by rw [hrec]), ?_⟩)⟩
      have hl2 : (W.putObj (w.heap.size + 1) (.loop { rec .ready none with state := .busy })).heap[w.heap.size + 1]? = some (.loop { rec .ready none with state := .busy }) := World.putObj_heap_same hlt
      have hk2 : (W.putObj (w.heap.size + 1) (.loop { rec .ready none with state := .busy })).heap[w.heap.size]? = some (.deferred (some [])) := (World.putObj_heap_other (by omega)).trans hk
      refine wpIn_mono (hbody _ x _ (hI.putObj _ hi (by omega) hl rfl)) ?_
      have fin : ∀ (jump : Option Code) (W3 : World), KeepsOthers (W.putObj (w.heap.size + 1) (.loop { rec .ready none with state := .busy })) W3 →
          (Instr.endRound (w.heap.size + 1) jump).run P W3 = .ok (.bool jump.isNone) (W3.putObj (w.heap.size + 1) (.loop (rec (if jump.isNone then .ready else .done) jump))) ∧
          W3.heap[w.heap.size + 1]? = some (.loop { rec .ready none with state := .busy }) ∧
          (W3.putObj (w.heap.size + 1) (.loop (rec (if jump.isNone then .ready else .done) jump))).heap[w.heap.size + 1]? = some (.loop (rec (if jump.isNone then .ready else .done) jump)) ∧
          (W3.putObj (w.heap.size + 1) (.loop (rec (if jump.isNone then .ready else .done) jump))).heap[w.heap.size]? = some (.deferred (some [])) := fun jump W3 hk3 => by
        have hl3 := hk3.same _ _ hl2 rfl
        have := run_endRound (P := P) jump hl3
        rw [hrec] at this ⊢
        exact ⟨this, by rw [hrec] at hl3; exact hl3, World.putObj_heap_same (Array.getElem?_eq_some_iff.1 hl3).1, (World.putObj_heap_other (by omega)).trans (hk3.same _ _ hk2 rfl)⟩
      rintro e a3 W3 hp
      cases e with
      | normal =>
        obtain ⟨hk3, hi3⟩ := hp
        obtain ⟨hr, hl3, hl4, hk4⟩ := fin none W3 hk3
        exact ⟨_, _, hr, .inl ⟨rfl, hI'.putObj _ hi3 (by omega) hl3 rfl, hl4, hk4⟩⟩
      | ret =>
        obtain ⟨hk3, hi3⟩ := hp
        obtain ⟨hr, hl3, hl4, hk4⟩ := fin (some .ret) W3 hk3
        exact ⟨_, _, hr, .inr ⟨rfl, .ret, (hIx _).putObj (s := ()) _ hi3 (by omega) hl3 rfl, hl4, hk4⟩⟩
      | exit id =>
        obtain ⟨hk3, hi3⟩ := hp
        obtain ⟨hr, hl3, hl4, hk4⟩ := fin (some (.exit id)) W3 hk3
        exact ⟨_, _, hr, .inr ⟨rfl, .exit id, (hIx _).putObj (s := ()) _ hi3 (by omega) hl3 rfl, hl4, hk4⟩⟩
      | goto t =>
        obtain ⟨hk3, hi3⟩ := hp
        obtain ⟨hr, hl3, hl4, hk4⟩ := fin (some (.goto t)) W3 hk3
        exact ⟨_, _, hr, .inr ⟨rfl, .goto t, (hIx _).putObj (s := ()) _ hi3 (by omega) hl3 rfl, hl4, hk4⟩⟩
      | panic ch => exact hp.elim
      | outgrown => exact hp.elim
    · -- behind the iterator
      rintro e W2 ⟨⟨v, rfl⟩, c, hi, hl, hk⟩
      exact ⟨some c, _, by have := run_endLoop (P := P) hl (by rw [hrec]; simp); rw [hrec] at this; exact this, hstop _ c _ (Nat.le_refl _) ((hIx c).putObj (s := ()) _ hi (by omega) hl rfl) ((World.putObj_heap_other (by omega)).trans hk)⟩

end Go.Proofs.Ytieocihlkpipmaa

namespace Go.Proofs.Ytieocihlkpipmaa
open Go.RowKit Go.Shelf
attribute [local go_sem] Oper.semAt_some

theorem els_keeps {g : Nat} {A B : World} {cs : Array Value} {T : Nat} {fr : Nat × Nat} (h : Els g A B) (hc : A.heap[g]? = some (.cells cs T fr)) : KeepsOthers A B :=
  ⟨h.size, fun k o hk ho => by
    by_cases e : k = g
    · subst e; rw [hc] at hk; cases hk; cases ho
    · exact (h.block k (Array.getElem?_eq_some_iff.1 hk).1 e).trans hk⟩
theorem MachP.grown {W W' : World} {row : Option Nat} {B g : Nat} {l : List Ins} {s : St} {pv sv : Value} {ps : List Value} (h : MachP W B g l s pv sv ps) (hg : W.grownBy W' row) (hr : ∀ r, row = some r → ∃ o : Obj, W.heap[r]? = some o ∧ o.isCells = false) : MachP W' B g l s pv sv ps := by
  have K : ∀ T, Kept T W W' := fun T k cs hk => (grownBy_keeps_cells hg hr hk rfl).trans hk
  obtain ⟨xs, h1, h2⟩ := h.sets
  refine ⟨K _ _ _ h.blk, h.regs.kept (K _), ⟨h.prog.1, h.prog.2.1, ?_⟩, h.le, xs, h1.kept (K _), own_kept h2 (K _)⟩
  rcases h.prog.2.2 with h3 | ⟨g', off, cap, hv, hlt, hc⟩
  · exact .inl h3
  · exact .inr ⟨g', off, cap, hv, hlt, fun j x hj k u hk => cell_kept (hc j x hj k u hk) hg hr⟩

/-- The machine is in its k-th state; what the caller owns stands. -/
def AtK (l : List Ins) (s0 : St) (B g mb : Nat) (pv sv : Value) (C : World → Prop) (k : Nat) (W : World) : Prop :=
  Reach l s0 k ∧ (∃ ps, MachP W B g l (stN l s0 k) pv sv ps) ∧ W.cell? ⟨mb, 0, none⟩ = some (.pointer (some ⟨g, 0, none⟩)) ∧ C W
def RI (fuel : Nat) (l : List Ins) (s0 : St) (B g mb : Nat) (pv sv : Value) (C : World → Prop) (x : Nat × Bool) (W : World) : Prop :=
  x.1 ≤ fuel ∧ AtK l s0 B g mb pv sv C x.1 W ∧ (x.2 = true → x.1 < fuel ∧ (stN l s0 x.1).pos ≠ l.length ∧ stepP l (stN l s0 x.1) = none)
def RI' (fuel : Nat) (l : List Ins) (s0 : St) (B g mb : Nat) (pv sv : Value) (C : World → Prop) (x : Nat × Bool) (W : World) : Prop :=
  x.1 < fuel ∧ x.2 = false ∧ (stN l s0 x.1).pos ≠ l.length ∧ AtK l s0 B g mb pv sv C x.1 W
theorem AtK.els {l : List Ins} {s0 : St} {B g mb : Nat} {pv sv : Value} {C : World → Prop} {k : Nat} {W W' : World} (h : AtK l s0 B g mb pv sv C k W) (hC : ∀ A B, Els g A B → C A → C B) (hb : Below W.heap.size W W') : AtK l s0 B g mb pv sv C k W' := by
  obtain ⟨h1, ⟨ps, h2⟩, h3, h4⟩ := h
  refine ⟨h1, ⟨ps, h2.kept hb⟩, ?_, hC _ _ (Els.of_below hb) h4⟩
  have : mb < W.heap.size := by
    obtain ⟨o, ho, _⟩ := cells_of_cell h3
    exact (Array.getElem?_eq_some_iff.1 ho).1
  exact (hb.cell (p := ⟨mb, 0, none⟩) this).trans h3

theorem ended_at (b : Bool) (w : World) (B g : Nat) (l : List Ins) (s : St) (pv sv : Value) (ps : List Value) (hm : MachP w B g l s pv sv ps) (hg : Good l.length s) (hb : ((s.pos : Int) == (l.length : Int)) = b) :
    Calls Try.prog 70 #[.pointer (some ⟨g, 0, none⟩)] w fun e w' => e = .returned (.bool b) ∧ Below w.heap.size w w' := by
  refine (ended_any w B g l s pv sv ps hm hg).mono ?_
  rintro e w' ⟨rfl, nq, rfl⟩
  exact ⟨by rw [hb], below_drewN (Below.refl _ _) nq⟩

theorem step_at_some {l : List Ins} {s s' : St} (w : World) (B g : Nat) (pv sv : Value) (ps : List Value) (hm : MachP w B g l s pv sv ps) (hg : Good l.length s) (hv : rightAll l = true) (hp : s.pos < l.length) (hn4 : l.length ≤ 4000) (hs : stepP l s = some s') :
    Calls Try.prog 86 #[.pointer (some ⟨g, 0, none⟩)] w fun e w' => e = .returned (.bool true) ∧ Hid ((∃ ps', MachP w' B g l s' pv sv ps') ∧ Els g w w') := by
  refine (step_any w B g l s pv sv ps hm hg hv hp hn4).mono ?_
  intro e w' h
  unfold StepOut at h
  rw [hs] at h
  obtain ⟨ps', h1, h2, h3⟩ := h
  exact ⟨h1, ⟨ps', h2⟩, h3⟩
theorem step_at_none {l : List Ins} {s : St} (w : World) (B g : Nat) (pv sv : Value) (ps : List Value) (hm : MachP w B g l s pv sv ps) (hg : Good l.length s) (hv : rightAll l = true) (hp : s.pos < l.length) (hn4 : l.length ≤ 4000) (hs : stepP l s = none) :
    Calls Try.prog 86 #[.pointer (some ⟨g, 0, none⟩)] w fun e w' => e = .returned (.bool false) ∧ Hid ((∃ ps', MachP w' B g l s pv sv ps') ∧ Els g w w') := by
  refine (step_any w B g l s pv sv ps hm hg hv hp hn4).mono ?_
  intro e w' h
  unfold StepOut at h
  rw [hs] at h
  exact ⟨h.1, ⟨ps, h.2.1⟩, h.2.2⟩

set_option maxHeartbeats 1000000 in
theorem states_any (p : Option Addr) (w : World) :
    Calls Try.prog 69 #[.pointer p] w fun e w' => e = .returned (.func (.func 93) #[] #[.pointer (some ⟨w.heap.size, 0, none⟩)]) ∧ w' = w.alloc (.cells #[.pointer p] 91) := by
  go_enter Try.func69, Try.ntmps69
  go_wp2
  go_ret
  exact ⟨rfl, rfl⟩

set_option maxRecDepth 100000 in
set_option maxHeartbeats 2000000 in
theorem states1_ends (n : Nat) (fuel : Nat) (hfuel : fuel ≤ 10000000) (l : List Ins) (s0 : St) (B g mb : Nat) (hmb : mb ≠ g) (pv sv : Value) (C : World → Prop) (hC : ∀ A B, Els g A B → C A → C B) (hG : Good l.length s0) (hv : rightAll l = true) (hn4 : l.length ≤ 4000) :
    SeqEnds Fence.wide n Try.prog 93 #[.pointer (some ⟨mb, 0, none⟩)] (fun x : Nat × Bool => #[.int .i64 x.1, .bool x.2]) (AtK l s0 B g mb pv sv C 0) (RI fuel l s0 B g mb pv sv C) (RI' fuel l s0 B g mb pv sv C) := by
  intro lr Bk Bx hBk hY W h0 hk0
  have HY := Lib.hid hY
  have HC := Lib.hid hC
  have HBk := Lib.hid hBk
  have HG := Lib.hid hG
  have HV := Lib.hid hv
  clear hY hC hBk hG hv
  refine callsIn_of_wp Try.func93 rfl trivial ?_ rfl
  simp only [Try.ntmps93, List.size_toArray, List.length_cons, List.length_nil, Nat.reduceAdd, Nat.reduceSub, Array.replicate_succ, Array.replicate_zero, List.push_toArray, List.append_toArray, List.nil_append, List.cons_append]
  gi_wp2
  gi_loopw [3] (fun p wr => ∃ k : Nat, p = .int .i64 k ∧ k ≤ fuel ∧ AtK l s0 B g mb pv sv C k wr ∧ Hid (Bk wr)) (fun p _ => fuel - (intOf p).toNat)
  case atStart => exact ⟨0, rfl, by omega, h0, hk0⟩
  case round =>
    obtain ⟨k, rfl, hk, hat, hbk⟩ := hrel
    have hg := HG.out
    have hgk := hat.1.good HV.out HG.out
    have hR0 := Lib.hid hat.1
    obtain ⟨ps, hm⟩ := hat.2.1
    have c0 := hat.2.2.1
    have HAT := Lib.hid hat
    clear hat
    cases hp : ((stN l s0 k).pos : Int) == (l.length : Int) with
    | true =>
      have ke := ended_at _ wr B g l _ pv sv ps hm hgk hp
      have hpos : (stN l s0 k).pos = l.length := by have := eq_of_beq hp; omega
      have HP := Lib.hid hpos
      clear hp hpos
      gi_wp2_with fail
      refine ⟨trivial, fun h => (by cases h), (callsIn_wide.2 ke).mono ?_⟩
      rintro e w1 ⟨rfl, hb1⟩
      have hat1 := HAT.out.els HC.out hb1
      obtain ⟨fn, tmps, assign, body, hy, hR⟩ := HY.out (k, false) w1 ⟨hk, hat1, by simp⟩ (HBk.out _ _ (els_keeps (Els.of_below hb1) hm.blk) hbk.out)
      clear ke hm hat1
      gi_wp2
      refine ⟨fun h => (by cases h), hR.mono ?_⟩
      rintro e W3 (⟨rfl, hI, hB3⟩ | ⟨rfl, hx3⟩)
      · exact absurd HP.out hI.2.2.1
      · gi_wp2
        refine bodyPost_ret (results_none rfl _ _ _) rfl ?_
        exact ⟨⟨_, rfl⟩, hx3⟩
    | false =>
      have ke := ended_at _ wr B g l _ pv sv ps hm hgk hp
      have hpos : (stN l s0 k).pos ≠ l.length := by
        intro h
        rw [h] at hp
        simp at hp
      have hpl : (stN l s0 k).pos < l.length := by have := hgk.1; omega
      have HP := Lib.hid hpos
      have HG2 := Lib.hid hgk
      clear hp hpos hgk hg
      gi_wp2_with fail
      refine ⟨trivial, fun h => (by cases h), (callsIn_wide.2 ke).mono ?_⟩
      rintro e w1 ⟨rfl, hb1⟩
      have hat1 := HAT.out.els HC.out hb1
      obtain ⟨fn, tmps, assign, body, hy, hR⟩ := HY.out (k, false) w1 ⟨hk, hat1, by simp⟩ (HBk.out _ _ (els_keeps (Els.of_below hb1) hm.blk) hbk.out)
      clear ke hm hat1 c0
      gi_wp2
      refine ⟨fun h => (by cases h), hR.mono ?_⟩
      rintro e W3 (⟨rfl, hI, hB3⟩ | ⟨rfl, hx3⟩)
      · obtain ⟨hlt, _, _, hat3⟩ := hI
        obtain ⟨ps3, hm3⟩ := hat3.2.1
        have c3 := hat3.2.2.1
        have HAT3 := Lib.hid hat3
        have HB3 := Lib.hid hB3
        clear hy hR hat3 hB3
        cases hs : stepP l (stN l s0 k) with
        | some s' =>
          have ks := step_at_some W3 B g pv sv ps3 hm3 HG2.out HV.out hpl hn4 hs
          have HM3 := Lib.hid hm3
          have HS := Lib.hid hs
          clear hs hm3
          gi_wp2_with fail
          refine ⟨trivial, fun h => (by cases h), (callsIn_wide.2 ks).mono ?_⟩
          rintro e w4 ⟨rfl, hE⟩
          clear ks
          have hnew : Hid (AtK l s0 B g mb pv sv C (k + 1) w4 ∧ Bk w4) := by
            obtain ⟨⟨ps', hm'⟩, hels⟩ := hE.out
            refine ⟨⟨hR0.out.succ HP.out HS.out, ⟨ps', by rw [stN_succ HS.out]; exact hm'⟩, ?_, HC.out _ _ hels HAT3.out.2.2.2⟩, HBk.out _ _ (els_keeps hels HM3.out.blk) HB3.out⟩
            have hmb' : mb < W3.heap.size := by
              obtain ⟨o, ho, _⟩ := cells_of_cell c3
              exact (Array.getElem?_eq_some_iff.1 ho).1
            exact (World.cell?_of_block (hels.block mb hmb' hmb)).trans c3
          clear hE c3
          gi_wp2
          go_roundw
          case rel => exact ⟨k + 1, by go_num, by omega, hnew.out.1, hnew.out.2⟩
          case measure => simp [intOf]; omega
        | none =>
          have ks := step_at_none W3 B g pv sv ps3 hm3 HG2.out HV.out hpl hn4 hs
          have HM3 := Lib.hid hm3
          have HS := Lib.hid hs
          clear hs hm3
          gi_wp2_with fail
          refine ⟨trivial, fun h => (by cases h), (callsIn_wide.2 ks).mono ?_⟩
          rintro e w4 ⟨rfl, hE⟩
          clear ks
          have hnew : AtK l s0 B g mb pv sv C k w4 ∧ Bk w4 := by
            obtain ⟨⟨ps', hm'⟩, hels⟩ := hE.out
            refine ⟨⟨hR0.out, ⟨ps', hm'⟩, ?_, HC.out _ _ hels HAT3.out.2.2.2⟩, HBk.out _ _ (els_keeps hels HM3.out.blk) HB3.out⟩
            have hmb' : mb < W3.heap.size := by
              obtain ⟨o, ho, _⟩ := cells_of_cell c3
              exact (Array.getElem?_eq_some_iff.1 ho).1
            exact (World.cell?_of_block (hels.block mb hmb' hmb)).trans c3
          obtain ⟨fn, tmps, assign, body, hy, hR⟩ := HY.out (k, true) w4 ⟨hk, hnew.1, fun _ => ⟨hlt, HP.out, HS.out⟩⟩ hnew.2
          clear hE c3 hnew
          gi_wp2
          refine ⟨fun h => (by cases h), hR.mono ?_⟩
          rintro e W5 (⟨rfl, hI5, _⟩ | ⟨rfl, hx5⟩)
          · exact absurd hI5.2.1 (by simp)
          · gi_wp2
            refine bodyPost_ret (results_none rfl _ _ _) rfl ?_
            exact ⟨⟨_, rfl⟩, hx5⟩
      · gi_wp2
        refine bodyPost_ret (results_none rfl _ _ _) rfl ?_
        exact ⟨⟨_, rfl⟩, hx3⟩

end Go.Proofs.Ytieocihlkpipmaa

namespace Go.Proofs.Ytieocihlkpipmaa
open Go.RowKit

theorem MachP.range {w : World} {B g : Nat} {l : List Ins} {s : St} {pv sv : Value} {ps : List Value} (h : MachP w B g l s pv sv ps) : w.rangeAt g 2 ps := by
  intro j v hj
  rw [(block_cells h.blk).1]
  unfold mcells
  rw [List.getElem?_toArray, show 2 + j = j + 1 + 1 by omega]
  simp only [List.getElem?_cons_succ]
  rw [List.getElem?_append_left (List.getElem?_eq_some_iff.1 hj).1, hj]

theorem run_index_ptr (w : World) (ps : List Value) (k : Nat) (hk : k < 32) (v : Value) (hv : ps[k]? = some v) :
    (Instr.index 98 (.agg ps.toArray) (.int .i64 (k : Nat))).run Try.prog w = .ok v w := by
  have hu : Try.prog.underlying 98 = some (.array 32 96) := Try.underlying98
  have hs : (Try.prog.info? 96).map (·.size) = some 1 := by kernel_rfl
  have hu2 : ∃ e, Try.prog.underlying 96 = some (.pointer e) := ⟨_, Try.underlying96⟩
  obtain ⟨e, hu2⟩ := hu2
  cases hq : Try.prog.info? 96 with
  | none => simp [hq] at hs
  | some i =>
    have hi : i.size = 1 := by simpa [hq] using hs
    have hag : ∀ w, (isAgg 96).run Try.prog w = .ok false w := fun w => by
      unfold isAgg; rw [Sem.run_bind, run_underlying hu2 w]; rfl
    have hk2 : (0 : Int) ≤ (k : Int) ∧ (k : Int) < 32 := by omega
    simp [Instr.index, asIntOf, Sem.run_bind, run_underlying hu, sizeOf, typeInfo, hq, hi, part, hag, hk2, hv, hk]

/-- A state that is being made. -/
def MakeS (w wr : World) (pos : Nat) (v : Value) (k : Nat) (xs : List Value) : Prop :=
  wr.heap[w.heap.size + 1]? = some (.cells #[.int .i64 pos, v] 53 (0, 0)) ∧ wr.heap[w.heap.size]? = some (.cells #[.int .i64 0, .slice none 0 0] 53 (0, 0)) ∧ wr.ownsRow (w.heap.size + 2) 9 1 v k xs ∧ Below w.heap.size w wr
theorem MakeS.step {w wr w1 w4 : World} {pos : Nat} {v v' : Value} {k : Nat} {xs : List Value} (h : MakeS w wr pos v k xs) (h1 : Below wr.heap.size wr w1) (hg : Grew w1 w4 v v' 1) : w4.heap[w.heap.size + 1]? = some (.cells #[.int .i64 pos, v] 53 (0, 0)) ∧ w4.heap[w.heap.size]? = some (.cells #[.int .i64 0, .slice none 0 0] 53 (0, 0)) := by
  obtain ⟨a, b, c, d⟩ := h
  have ha := (Array.getElem?_eq_some_iff.1 a).1
  have hb := (Array.getElem?_eq_some_iff.1 b).1
  have hs := h1.size
  refine ⟨(hg.old _ (by omega) ?_).trans ((h1.block _ ha).trans a), (hg.old _ (by omega) ?_).trans ((h1.block _ hb).trans b)⟩
  · intro e; have := (c.lt (w.heap.size + 1) (by rw [← e])).1; omega
  · intro e; have := (c.lt w.heap.size (by rw [← e])).1; omega

set_option maxRecDepth 20000 in
set_option maxHeartbeats 4000000 in
theorem state_any (w : World) (B g : Nat) (l : List Ins) (s : St) (pv sv : Value) (ps : List Value) (hm : MachP w B g l s pv sv ps) (hg : Good l.length s) :
    Calls Try.prog 82 #[.pointer (some ⟨g, 0, none⟩)] w fun e w' => ∃ v', e = .returned (.agg #[.int .i64 s.pos, v']) ∧ StrRow w' w'.heap.size v' (s.regs.map TS) ∧ Below w.heap.size w w' := by
  have hpl : ps.length = 32 := by rw [hm.regs.length, hg.2.1]
  have hra := Lib.hid (fun o1 o2 => (hm.kept (((Below.refl _ w).alloc (Nat.le_refl _) o1).alloc (by simp) o2)).range)
  have hsz := Lib.hid (show (Try.prog.info? 98).map (·.size) = some ps.length by rw [hpl]; kernel_rfl)
  obtain ⟨c0, c1, c34, hr, hf⟩ := hm.cells hg.2.1
  have HM := Lib.hid hm
  have HG := Lib.hid hg
  have hlt := hm.lt
  clear hm hg
  go_enter Try.func82, Try.ntmps82
  go_wp2_with (refine wpList_load_mid rfl 98 (.tmp 13) rfl g 2 rfl ps _ (hra.out _ _) Try.underlying98 rfl hsz.out ?_)
  have hb0 : Below w.heap.size w ((w.alloc (.cells #[.int .i64 0, .slice none 0 0] 53)).alloc (.cells #[.int .i64 s.pos, .slice none 0 0] 53)) := ((Below.refl _ w).alloc (Nat.le_refl _) _).alloc (by simp) _
  have hs0 : MakeS w ((w.alloc (.cells #[.int .i64 0, .slice none 0 0] 53)).alloc (.cells #[.int .i64 s.pos, .slice none 0 0] 53)) s.pos (.slice none 0 0) 0 [] := by
    refine ⟨?_, ?_, World.ownsRow_nil _ _ _ _, hb0⟩
    · have := heap_alloc_new (w.alloc (.cells #[.int .i64 0, .slice none 0 0] 53)) (.cells #[.int .i64 s.pos, .slice none 0 0] 53)
      rwa [World.size_alloc] at this
    · exact (Below.heap_alloc _ _ _ (by simp)).trans (heap_alloc_new w _)
  go_loopg [15] 32 (fun gg i wr => ∃ (k : Nat) (v : Value), k ≤ 32 ∧ gg = 32 - k ∧ i = .int .i64 k ∧ Aside (MakeS w wr s.pos v k ((s.regs.take k).map fun t => .string (TS t))))
  case atStart => exact ⟨0, _, by omega, rfl, rfl, hs0⟩
  case round =>
    clear hb0 hs0
    obtain ⟨k, v, hk, hgg, rfl, hm⟩ := hrel
    have HGG := Lib.hid hgg; clear hgg
    have hbw := hm.out.2.2.2
    by_cases hlt2 : k < 32
    · obtain ⟨t, ht⟩ : ∃ t, s.regs[k]? = some t := ⟨_, List.getElem?_eq_getElem (by rw [HG.out.2.1]; exact hlt2)⟩
      have hsz1 := Lib.hid (HG.out.2.2 t (List.mem_of_getElem? ht))
      obtain ⟨y, hy, hny⟩ := HM.out.regs.get ht
      obtain ⟨q, rfl⟩ := hny.ptr
      have HNY := Lib.hid ((hny.kept (Kept.below (hbw.mono (Nat.le_refl _)))))
      have HT := Lib.hid ht
      clear hny ht
      have kt : ∀ w', Below wr.heap.size wr w' → Calls Try.prog 71 #[.pointer q] w' fun e w'' => e = .returned (.string (TS t)) ∧ Below wr.heap.size wr w'' := fun w' hb' =>
        (nodeText_any t _ w' (HNY.out.kept (Kept.below hb')) hsz1.out).mono fun e w'' h => ⟨h.1, hb'.trans (h.2.mono hb'.size)⟩
      obtain ⟨a2, cp, rfl⟩ := own_len hm.out.2.2.1
      have HO := Lib.hid hm.out.2.2.1
      have hi0 : (0 : Int) ≤ (k : Int) := Int.natCast_nonneg _
      have hi1 : (k : Int) < 32 := by omega
      have hidx := fun w => run_index_ptr w ps k hlt2 _ hy
      have d1 := (block_cells hm.out.1).1 1
      simp only [List.getElem?_toArray, List.getElem?_cons_zero, List.getElem?_cons_succ] at d1
      have HS := Lib.hid hbw.size
      have HB := Lib.hid hbw
      have hlb := Lib.hid (Array.getElem?_eq_some_iff.1 hm.out.1).1
      obtain ⟨S, hS⟩ : ∃ S, TS t = S := ⟨_, rfl⟩
      rw [hS] at kt
      have HTS := Lib.hid hS
      have dk : ∀ w', Below wr.heap.size wr w' → w'.cell? ⟨w.heap.size + 1, 1, none⟩ = some (.slice a2 k cp) := fun w' hb' => (hb'.cell (p := ⟨w.heap.size + 1, 1, none⟩) hlb.out).trans d1
      clear hS hy hr c0 c1 c34 hf hbw
      go_wp2
      go_region_law ((first
        | (refine step_new el_str (by rfl) _ _ (by rfl) (by rfl) (own_below HO.out (by first | exact hb1.drew | exact hb1)) [.string S] 1 (by rfl) (by rfl) (by decide) (by intro u hu; simp at hu; subst hu; rfl) (by omega) (by unfold maxLen; omega) (by have h1 := hb1.size; have h2 := hlb.out; omega) (HB.out.trans ((by first | exact hb1 | exact hb1.drew : Below wr.heap.size wr _).mono HS.out)) (by omega) ?_; intro g4 cp4 w4 hown4 hb4 hg4; have hst := hm.out.step (by first | exact hb1 | exact hb1.drew) hg4; have x1 := (block_cells hst.1).1 1; have x2 := (block_cells hst.1).2 1; simp only [List.getElem?_toArray, List.getElem?_cons_zero, List.getElem?_cons_succ] at x1)
        | (go_simp; refine (kt _ (by first | exact Below.refl _ _ | exact (Below.refl _ _).drew)).mono ?_; rintro e w1 ⟨rfl, hb1⟩; have dk1 := dk _ hb1; have dk2 := fun o => dk _ (hb1.alloc hb1.size o))))
      all_goals
        have hnew : Hid (MakeS w (w4.setCell ⟨w.heap.size + 1, 1, none⟩ (.slice (some ⟨g4, 0, none⟩) (k + 1) cp4)) s.pos (.slice (some ⟨g4, 0, none⟩) (k + 1) cp4) (k + 1) ((s.regs.take (k + 1)).map fun t => .string (TS t))) := by
          refine ⟨set_blk hst.1 1 _, (Below.heap_setCell _ _ _ _ (by show w.heap.size ≠ w.heap.size + 1; omega)).trans hst.2, ?_, hb4.setCell (p := ⟨w.heap.size + 1, 1, none⟩) (by show w.heap.size ≤ w.heap.size + 1; omega) _⟩
          rw [take_snoc' _ _ _ HT.out, List.map_append, List.map_cons, List.map_nil, HTS.out]
          exact own_kept hown4 ((Kept.refl _ w4).setCell hst.1 (by decide) _)
        clear hst x1 x2 hown4 hb4 hg4
        go_wp2
        go_roundg (32 - (k + 1))
        case measure => rw [HGG.out]; omega
        case rel => exact ⟨k + 1, _, by omega, rfl, by go_num, hnew⟩
    · have hk32 : k = 32 := by omega
      subst hk32
      have htk : Hid (s.regs.take 32 = s.regs) := List.take_of_length_le (by rw [HG.out.2.1]; exact Nat.le_refl _)
      obtain ⟨a2, cp, rfl⟩ := own_len hm.out.2.2.1
      have d0 := (block_cells hm.out.1).1 0
      have d1 := (block_cells hm.out.1).1 1
      have r0 := (block_cells hm.out.2.1).1 0
      have r1 := (block_cells hm.out.2.1).1 1
      have f0 := (block_cells hm.out.2.1).2 0
      have f1 := (block_cells hm.out.2.1).2 1
      simp only [List.getElem?_toArray, List.getElem?_cons_zero, List.getElem?_cons_succ] at d0 d1 r0 r1
      clear hr c0 c1 c34 hf hbw
      go_wp2
      have hb1 := set_blk hm.out.2.1 0 (.int .i64 s.pos)
      have hb2 := set_blk hb1 1 (.slice a2 32 cp)
      have q0 := (block_cells hb2).1 0
      have q1 := (block_cells hb2).1 1
      simp only [List.setIfInBounds_toArray, List.set_cons_zero, List.set_cons_succ, List.getElem?_toArray, List.getElem?_cons_zero, List.getElem?_cons_succ] at q0 q1
      refine bodyPost_ret (v := .agg #[.int .i64 s.pos, .slice a2 32 cp]) (by simp [results, Try.results82, go_sem, q0, q1]) rfl ?_
      refine ⟨_, rfl, ?_, (hm.out.2.2.2.setCell (p := ⟨w.heap.size, 0, none⟩) (Nat.le_refl _) _).setCell (p := ⟨w.heap.size, 1, none⟩) (Nat.le_refl _) _⟩
      have ho := hm.out.2.2.1
      rw [htk.out] at ho
      refine StrRow.of_own (n := 32) (e := 9) (base := w.heap.size + 2) ?_ ?_ ?_
      · rw [List.map_map]
        exact own_kept ho (((Kept.refl _ wr).setCell hm.out.2.1 (by decide) _).setCell hb1 (by decide) _)
      · intro y hy
        obtain ⟨t, ht, rfl⟩ := List.mem_map.1 hy
        have := HG.out.2.2 t ht
        rw [TS_size]; omega
      · rw [List.length_map, HG.out.2.1]; omega

end Go.Proofs.Ytieocihlkpipmaa

namespace Go.Proofs.Ytieocihlkpipmaa
open Go.RowKit

theorem register_at (n : Int) (b : Bool) (h : regB n = b) (w : World) :
    Calls Try.prog 95 #[.int .i64 n] w fun e w' => e = .returned (.bool b) ∧ w = w' := by
  rw [← h]; exact register_any n w
theorem refValid_at' (s : ByteArray) (b : Bool) (hs : s.size ≤ 140737488355328) (h : isTree s = b) (w : World) :
    Calls Try.prog 24 #[.string s] w fun e w' => e = .returned (.bool b) ∧ w = w' := by
  rw [← h]; exact refValid_any s (by omega) w

set_option maxHeartbeats 4000000 in
theorem rright_any (op a b c : Int) (tree : ByteArray) (hx : (⟨op, a, b, c, tree⟩ : Ins).wf) (i n : Nat) (hi : i < n) (hn : n ≤ 4000) (w : World) :
    Calls Try.prog 73 #[.agg #[.int .i64 op, .int .i64 a, .int .i64 b, .int .i64 c, .string tree], .int .i64 i, .int .i64 n] w fun e w' => e = .returned (.bool (rightB ⟨op, a, b, c, tree⟩ i n)) ∧ Below w.heap.size w w' := by
  obtain ⟨w1, w2, w3, w4, w5⟩ := hx
  simp only at w1 w2 w3 w4 w5
  obtain ⟨r, hr⟩ : ∃ r, rightB ⟨op, a, b, c, tree⟩ i n = r := ⟨_, rfl⟩
  rw [hr]
  unfold i64 at w1 w2 w3 w4
  unfold rightB at hr
  simp only at hr
  have hb0 := (Below.refl w.heap.size w).alloc (Nat.le_refl _) (.cells #[.int .i64 op, .int .i64 a, .int .i64 b, .int .i64 c, .string tree] 73)
  cases hra : regB a with
  | false =>
    have ka := register_at a _ hra
    rw [hra] at hr
    simp only [Bool.false_and] at hr
    subst hr
    go_enter Try.func73, Try.ntmps73
    go_wp2_with fail
    refine (ka _).mono ?_
    rintro e w' ⟨rfl, rfl⟩
    go_wp2
    go_ret
    exact ⟨rfl, hb0⟩
  | true =>
    have ka := register_at a _ hra
    rw [hra] at hr
    simp only [Bool.true_and] at hr
    by_cases o0 : op = 0
    · subst o0
      have kv := refValid_at' tree _ w5 rfl
      simp only [show ((0 : Int) == 0) = true from rfl, show ((0 : Int) == 2) = false from rfl, Bool.true_or, Bool.true_and, Bool.false_or, if_pos] at hr
      cases hc : (c == 0) <;> cases hb : (b == 0) <;> rw [hc] at hr <;> rw [hb] at hr <;> simp only [Bool.false_and, Bool.true_and] at hr <;> subst hr
      all_goals
        have hc' : (c != 0) = !(c == 0) := rfl
        rw [hc] at hc'
        go_enter Try.func73, Try.ntmps73
        go_wp2_with fail
        refine (ka _).mono ?_
        rintro e w' ⟨rfl, rfl⟩
        go_wp2_with fail
        try (refine (kv _).mono ?_; rintro e w' ⟨rfl, rfl⟩; go_wp2_with fail)
        go_ret
        exact ⟨rfl, hb0⟩
    · have o0' : (op == 0) = false := by simpa using o0
      have o0n : (op != 0) = true := by simpa using o0
      rw [o0', if_neg o0] at hr
      simp only [Bool.false_or] at hr
      cases he : tree.toList.isEmpty with
      | false =>
        rw [he] at hr
        simp only [Bool.false_and] at hr
        subst hr
        have hen : (!tree.toList.isEmpty) = true := by rw [he]; rfl
        go_enter Try.func73, Try.ntmps73
        go_wp2_with fail
        refine (ka _).mono ?_
        rintro e w' ⟨rfl, rfl⟩
        go_wp2_with fail
        go_ret
        exact ⟨rfl, hb0⟩
      | true =>
        have hen : (!tree.toList.isEmpty) = false := by rw [he]; rfl
        rw [he] at hr
        simp only [Bool.true_and] at hr
        by_cases o2 : op = 2
        · subst o2
          rw [if_neg (by decide), if_pos rfl] at hr
          simp only [show ((2 : Int) == 2) = true from rfl, Bool.true_or, Bool.true_and] at hr
          have kb := register_at b _ rfl
          have kc := register_at c _ rfl
          cases hb : regB b <;> rw [hb] at hr kb <;> simp only [Bool.false_and, Bool.true_and] at hr <;> subst hr
          all_goals
            go_enter Try.func73, Try.ntmps73
            go_wp2_with fail
            refine (ka _).mono ?_
            rintro e w' ⟨rfl, rfl⟩
            go_wp2_with fail
            refine (kb _).mono ?_
            rintro e w' ⟨rfl, rfl⟩
            go_wp2_with fail
            try (refine (kc _).mono ?_; rintro e w' ⟨rfl, rfl⟩; go_wp2_with fail)
            go_ret
            exact ⟨rfl, hb0⟩
        · have o2' : (op == 2) = false := by simpa using o2
          have o2n : (op != 2) = true := by simpa using o2
          rw [o2'] at hr
          simp only [Bool.false_or] at hr
          cases hc : (c == 0) with
          | false =>
            have hc' : (c != 0) = true := by show (!(c == 0)) = true; rw [hc]; rfl
            rw [hc] at hr
            simp only [Bool.false_and] at hr
            subst hr
            go_enter Try.func73, Try.ntmps73
            go_wp2_with fail
            refine (ka _).mono ?_
            rintro e w' ⟨rfl, rfl⟩
            go_wp2_with fail
            go_ret
            exact ⟨rfl, hb0⟩
          | true =>
            have hc' : (c != 0) = false := by show (!(c == 0)) = false; rw [hc]; rfl
            rw [hc] at hr
            simp only [Bool.true_and] at hr
            by_cases o134 : op = 1 ∨ op = 3 ∨ op = 4
            · rw [if_pos o134] at hr
              have kb := register_at b _ hr
              rcases o134 with rfl | rfl | rfl
              all_goals
                go_enter Try.func73, Try.ntmps73
                go_wp2_with fail
                refine (ka _).mono ?_
                rintro e w' ⟨rfl, rfl⟩
                go_wp2_with fail
                refine (kb _).mono ?_
                rintro e w' ⟨rfl, rfl⟩
                go_wp2_with fail
                go_ret
                exact ⟨rfl, hb0⟩
            · rw [if_neg o134, if_neg o2] at hr
              by_cases o5 : op = 5
              · subst o5
                rw [if_pos rfl] at hr
                have hiI : (i : Int) < n := by omega
                have hnI : (n : Int) ≤ 4000 := by omega
                have hi0 : (0 : Int) ≤ (i : Int) := Int.natCast_nonneg _
                cases d1 : decide (-(i : Int) ≤ b) <;> cases d2 : decide (b ≤ (n : Int) - i) <;> rw [d1, d2] at hr
                all_goals
                  simp only [Bool.and_self, Bool.and_false, Bool.false_and, Bool.and_true] at hr
                  subst hr
                  clear w5 hi hn
                  go_enter Try.func73, Try.ntmps73
                  go_wp2_with fail
                  refine (ka _).mono ?_
                  rintro e w' ⟨rfl, rfl⟩
                  go_wp2_with fail
                  go_ret
                  exact ⟨rfl, hb0⟩
              · rw [if_neg o5] at hr
                have o1' : (op == 1) = false := by simp; omega
                have o3' : (op == 3) = false := by simp; omega
                have o4' : (op == 4) = false := by simp; omega
                have o5' : (op == 5) = false := by simp; omega
                subst hr
                go_enter Try.func73, Try.ntmps73
                go_wp2_with fail
                refine (ka _).mono ?_
                rintro e w' ⟨rfl, rfl⟩
                go_wp2_with fail
                go_ret
                exact ⟨rfl, hb0⟩

end Go.Proofs.Ytieocihlkpipmaa

namespace Go.Proofs.Ytieocihlkpipmaa
open Go.RowKit

/-- The first instructions are right where they stand. -/
def rightTo (l : List Ins) (k : Nat) : Prop := ∀ j x, j < k → l[j]? = some x → rightB x j l.length = true
theorem rightTo_all {l : List Ins} {k : Nat} (h : rightTo l k) (hk : l.length ≤ k) : rightAll l = true := by
  refine List.all_eq_true.2 fun i hi => ?_
  have hi := List.mem_range.1 hi
  rw [List.getElem?_eq_getElem hi]
  exact h i _ (by omega) (List.getElem?_eq_getElem hi)
theorem rightTo_snoc {l : List Ins} {k : Nat} {x : Ins} (h : rightTo l k) (hx : l[k]? = some x) (hr : rightB x k l.length = true) : rightTo l (k + 1) := by
  intro j y hj hy
  by_cases h1 : j = k
  · subst h1; rw [hx] at hy; cases hy; exact hr
  · exact h j y (by omega) hy
theorem validB_eq (l : List Ins) (h : l.length ≤ 4000) (h2 : trees l ≤ 2000000) : validB l = rightAll l := by
  unfold validB; rw [decide_eq_true h, decide_eq_true h2]; rfl
theorem validB_long (l : List Ins) (h : 4000 < l.length) : validB l = false := by
  unfold validB; rw [decide_eq_false (by omega)]; rfl
theorem validB_large (l : List Ins) (h : 2000000 < trees l) : validB l = false := by
  unfold validB; rw [decide_eq_false (by omega : ¬ trees l ≤ 2000000)]; simp

set_option maxHeartbeats 2000000 in
theorem refValidP_any (v : Value) (l : List Ins) (w : World) (hl : InsRow w w.heap.size v l) :
    Calls Try.prog 23 #[v] w fun e w' => e = .returned (.bool (validB l)) ∧ Below w.heap.size w w' := by
  obtain ⟨r, hr⟩ : ∃ r, validB l = r := ⟨_, rfl⟩
  rw [hr]
  have hb0 := hl.2.1
  by_cases h4 : 4000 < l.length
  · rw [validB_long l h4] at hr
    subst hr
    obtain ⟨ao, cap, rfl⟩ := hl.len
    obtain ⟨n, hn'⟩ : ∃ n, l.length = n := ⟨_, rfl⟩
    rw [hn'] at h4 hb0 ⊢
    clear hl hn'
    go_enter Try.func23, Try.ntmps23
    go_wp2
    go_ret
    exact ⟨rfl, Below.refl _ _⟩
  · have kt := fun w' (h : InsRow w' w.heap.size v l) => trees_any v l w' w.heap.size h (by omega)
    have htr := trees_le l (fun x hx => (hl.1 x hx).2.2.2.2)
    have htr2 : (trees l : Int) ≤ 4000 * 140737488355328 := by
      have : l.length * 140737488355328 ≤ 4000 * 140737488355328 := Nat.mul_le_mul_right _ (by omega)
      omega
    clear htr
    have hlarge := Lib.hid (validB_large l)
    have heq := Lib.hid (validB_eq l (by omega))
    obtain ⟨ao, cap, rfl⟩ := hl.len
    obtain ⟨n, hn'⟩ : ∃ n, l.length = n := ⟨_, rfl⟩
    rw [hn'] at h4 hb0 kt hl ⊢
    have HN := Lib.hid hn'; clear hn'
    have HR := Lib.hid hr; clear hr
    obtain ⟨m, hm⟩ : ∃ m, trees l = m := ⟨_, rfl⟩
    rw [hm] at kt htr2 hlarge heq
    clear hm
    by_cases hm : 2000000 < m
    · have hf : Hid (r = false) := HR.out.symm.trans (hlarge.out hm)
      have hmI : ¬ (m : Int) ≤ 2000000 := by omega
      go_enter Try.func23, Try.ntmps23
      go_wp2_with fail
      refine (kt _ hl).mono ?_
      rintro e w' ⟨rfl, rfl⟩
      go_wp2
      go_ret
      exact ⟨by rw [hf.out]; rfl, Below.refl _ _⟩
    · have heq := Lib.hid (heq.out (by omega))
      have hmI : (m : Int) ≤ 2000000 := by omega
      have h4I : (n : Int) ≤ 4000 := by omega
      go_enter Try.func23, Try.ntmps23
      go_wp2_with fail
      refine (kt _ hl).mono ?_
      rintro e w' ⟨rfl, rfl⟩
      clear kt
      go_wp2
      go_loopg [3] n (fun g i wr => ∃ k : Nat, k ≤ n ∧ g = n - k ∧ i = .int .i64 k ∧ Aside (rightTo l k) ∧ Below w.heap.size w wr)
      case atStart => exact ⟨0, Nat.zero_le _, rfl, rfl, (fun j x hj => absurd hj (Nat.not_lt_zero _)), Below.refl _ _⟩
      case round =>
        obtain ⟨k, hk, hg, rfl, hv, hbw⟩ := hrel
        have HG := Lib.hid hg; clear hg
        by_cases hlt : k < n
        · obtain ⟨x, hx⟩ : ∃ s, l[k]? = some s := ⟨_, List.getElem?_eq_getElem (by rw [HN.out]; exact hlt)⟩
          have hl2 := hl.below hbw
          obtain ⟨g, off, rfl, hg, c0, c1, c2, c3, c4⟩ := hl2.get hx
          have hwf := hl.wf hx
          have HX := Lib.hid hx; clear hx
          have kr := fun w => rright_any x.op x.a x.b x.c x.tree hwf k n hlt (by omega) w
          obtain ⟨q, hq⟩ : ∃ q, rightB x k n = q := ⟨_, rfl⟩
          rw [show rightB ⟨x.op, x.a, x.b, x.c, x.tree⟩ k n = q from hq] at kr
          have HQ := Lib.hid hq
          clear hq hwf hl2
          have hi0 : (0 : Int) ≤ (k : Int) := Int.natCast_nonneg _
          have hi1 : (k : Int) < (n : Int) := by omega
          cases q with
          | true =>
            go_wp2_with fail
            refine (kr _).mono ?_
            rintro e w' ⟨rfl, k2⟩
            have c2 := hbw.trans (k2.mono hbw.size)
            clear k2
            go_wp2
            go_roundg (n - (k + 1))
            case measure => rw [HG.out]; omega
            case rel => exact ⟨k + 1, by omega, rfl, by go_num, rightTo_snoc hv.out HX.out (by rw [HN.out]; exact HQ.out), c2⟩
          | false =>
            go_wp2_with fail
            refine (kr _).mono ?_
            rintro e w' ⟨rfl, k2⟩
            have c2 := hbw.trans (k2.mono hbw.size)
            clear k2
            have hf : Hid (r = false) := HR.out.symm.trans (heq.out.trans (rightAll_false HX.out (by rw [HN.out]; exact HQ.out)))
            go_wp2
            go_ret
            exact ⟨by rw [hf.out]; rfl, c2⟩
        · have hf : Hid (r = true) := HR.out.symm.trans (heq.out.trans (rightTo_all hv.out (by rw [HN.out]; omega)))
          go_wp2
          go_ret
          exact ⟨by rw [hf.out]; rfl, hbw⟩

end Go.Proofs.Ytieocihlkpipmaa

namespace Go.Proofs.Ytieocihlkpipmaa
open Go.RowKit

set_option maxHeartbeats 1000000 in
theorem codeReg_any (g n : Nat) (xs : List Int) (hn' : xs.length = n) (hn4 : n ≤ 4) (w : World) (hc : ∀ (j : Nat) (a : Int), xs[j]? = some a → w.cell? ⟨g, j, none⟩ = some (.int .i64 a)) :
    Calls Try.prog 105 #[.slice (some ⟨g, 0, none⟩) n n] w fun e w' => e = .returned (.bool (xs.all regB)) ∧ w = w' := by
  obtain ⟨r, hr⟩ : ∃ r, xs.all regB = r := ⟨_, rfl⟩
  rw [hr]
  have HR := Lib.hid hr; clear hr
  have HN := Lib.hid hn'; clear hn'
  go_enter Try.func105, Try.ntmps105
  go_wp2
  go_loopg [7] n (fun gg i wr => ∃ k : Nat, k ≤ n ∧ gg = n - k ∧ i = .int .i64 k ∧ Aside (∀ x ∈ xs.take k, regB x = true) ∧ w = wr)
  case atStart => exact ⟨0, Nat.zero_le _, rfl, rfl, (fun x hx => by simp at hx), rfl⟩
  case round =>
    obtain ⟨k, hk, hg, rfl, hv, rfl⟩ := hrel
    have HG := Lib.hid hg; clear hg
    by_cases hlt : k < n
    · obtain ⟨x, hx⟩ : ∃ s, xs[k]? = some s := ⟨_, List.getElem?_eq_getElem (by rw [HN.out]; exact hlt)⟩
      have hcell := hc k x hx
      have HX := Lib.hid hx; clear hx
      have hi0 : (0 : Int) ≤ (k : Int) := Int.natCast_nonneg _
      have hi1 : (k : Int) < (n : Int) := by omega
      by_cases h0 : x < 0
      · have hf : Hid (r = false) := HR.out.symm.trans (by
          rw [Bool.eq_false_iff]; intro h
          have := List.all_eq_true.1 h x (List.mem_of_getElem? HX.out)
          unfold regB at this; simp at this; omega)
        go_wp2
        go_ret
        exact ⟨by rw [hf.out]; rfl, rfl⟩
      · by_cases h32 : x < 32
        · go_wp2
          go_roundg (n - (k + 1))
          case measure => rw [HG.out]; omega
          case rel => exact ⟨k + 1, by omega, rfl, by go_num, (by intro y hy; rw [take_snoc' _ _ _ HX.out] at hy; rcases List.mem_append.1 hy with h | h; exact hv.out y h; simp at h; subst h; unfold regB; simp; omega), rfl⟩
        · have hf : Hid (r = false) := HR.out.symm.trans (by
            rw [Bool.eq_false_iff]; intro h
            have := List.all_eq_true.1 h x (List.mem_of_getElem? HX.out)
            unfold regB at this; simp at this; omega)
          go_wp2
          go_ret
          exact ⟨by rw [hf.out]; rfl, rfl⟩
    · have hf : Hid (r = true) := HR.out.symm.trans (List.all_eq_true.2 (by have := hv.out; rwa [List.take_of_length_le (by rw [HN.out]; omega)] at this))
      go_wp2
      go_ret
      exact ⟨by rw [hf.out]; rfl, rfl⟩

end Go.Proofs.Ytieocihlkpipmaa

namespace Go.Proofs.Ytieocihlkpipmaa
open Go.RowKit

theorem codeValid_at (s : ByteArray) (b : Bool) (hs : s.size ≤ 140737488355328) (h : isTree s = b) (w : World) :
    Calls Try.prog 44 #[.string s] w fun e w' => e = .returned (.bool b) ∧ Below w.heap.size w w' := by
  rw [← h]; exact treeValid_any s (by omega) w

theorem creg_of (xs : List Int) (n : Nat) (hn : xs.length = n) (hn4 : n ≤ 4) (b : Bool) (hb : xs.all regB = b) (W : World) (G : Nat) (hG : W.heap.size = G) :
    Calls Try.prog 105 #[.slice (some ⟨G, 0, none⟩) n n] (W.alloc (.cells (xs.map (Value.int .i64)).toArray 3)) fun e w' => e = .returned (.bool b) ∧ (W.alloc (.cells (xs.map (Value.int .i64)).toArray 3)) = w' := by
  subst hG
  rw [← hb]
  have hown : (W.alloc (.cells (xs.map (Value.int .i64)).toArray 3)).ownsRow W.heap.size 3 1 (.slice (some ⟨W.heap.size, 0, none⟩) n n) n (xs.map (Value.int .i64)) := World.ownsRow_lit W (xs.map (Value.int .i64)).toArray n (Nat.le_refl _) (by unfold maxLen; omega) (by simp [hn])
  refine codeReg_any _ n xs hn hn4 _ fun j a hj => ?_
  have hlt : j < n * 1 := by have := (List.getElem?_eq_some_iff.1 hj).1; omega
  rw [World.ownsRow.cellAt hown j hlt, List.getElem?_map, hj]; rfl
theorem creg1 (a : Int) (b : Bool) (hb : regB a = b) (W : World) (G : Nat) (hG : W.heap.size = G) :
    Calls Try.prog 105 #[.slice (some ⟨G, 0, none⟩) 1 1] (W.alloc (.cells #[.int .i64 a] 3)) fun e w' => e = .returned (.bool b) ∧ (W.alloc (.cells #[.int .i64 a] 3)) = w' :=
  creg_of [a] 1 rfl (by decide) b (by simp [hb]) W G hG
theorem creg2 (a1 a2 : Int) (b : Bool) (hb : (regB a1 && regB a2) = b) (W : World) (G : Nat) (hG : W.heap.size = G) :
    Calls Try.prog 105 #[.slice (some ⟨G, 0, none⟩) 2 2] (W.alloc (.cells #[.int .i64 a1, .int .i64 a2] 3)) fun e w' => e = .returned (.bool b) ∧ (W.alloc (.cells #[.int .i64 a1, .int .i64 a2] 3)) = w' :=
  creg_of [a1, a2] 2 rfl (by decide) b (by simp [← hb]) W G hG
theorem creg3 (a1 a2 a3 : Int) (b : Bool) (hb : (regB a1 && regB a2 && regB a3) = b) (W : World) (G : Nat) (hG : W.heap.size = G) :
    Calls Try.prog 105 #[.slice (some ⟨G, 0, none⟩) 3 3] (W.alloc (.cells #[.int .i64 a1, .int .i64 a2, .int .i64 a3] 3)) fun e w' => e = .returned (.bool b) ∧ (W.alloc (.cells #[.int .i64 a1, .int .i64 a2, .int .i64 a3] 3)) = w' :=
  creg_of [a1, a2, a3] 3 rfl (by decide) b (by simp [← hb, Bool.and_assoc]) W G hG

set_option maxHeartbeats 4000000 in
theorem cright_any (op a b c : Int) (tree : ByteArray) (hx : (⟨op, a, b, c, tree⟩ : Ins).wf) (i n : Nat) (hi : i < n) (hn : n ≤ 4000) (w : World) :
    Calls Try.prog 96 #[.agg #[.int .i64 op, .int .i64 a, .int .i64 b, .int .i64 c, .string tree], .int .i64 i, .int .i64 n] w fun e w' => e = .returned (.bool (rightB ⟨op, a, b, c, tree⟩ i n)) ∧ Below w.heap.size w w' := by
  obtain ⟨w1, w2, w3, w4, w5⟩ := hx
  simp only at w1 w2 w3 w4 w5
  obtain ⟨r, hr⟩ : ∃ r, rightB ⟨op, a, b, c, tree⟩ i n = r := ⟨_, rfl⟩
  rw [hr]
  unfold i64 at w1 w2 w3 w4
  unfold rightB at hr
  simp only at hr
  have hb0 := (Below.refl w.heap.size w).alloc (Nat.le_refl _) (.cells #[.int .i64 op, .int .i64 a, .int .i64 b, .int .i64 c, .string tree] 73)
  by_cases o0 : op = 0
  · subst o0
    have kv := codeValid_at tree _ w5 rfl
    simp only [show ((0 : Int) == 0) = true from rfl, show ((0 : Int) == 2) = false from rfl, Bool.true_or, Bool.and_true, Bool.true_and, Bool.false_or, if_pos] at hr
    cases hc : (c == 0) with
    | false =>
      have hc' : (c != 0) = true := by show (!(c == 0)) = true; rw [hc]; rfl
      rw [hc] at hr
      simp only [Bool.and_false, Bool.false_and] at hr
      subst hr
      go_enter Try.func96, Try.ntmps96
      go_wp2_with fail
      go_ret
      exact ⟨rfl, hb0⟩
    | true =>
      have hc' : (c != 0) = false := by show (!(c == 0)) = false; rw [hc]; rfl
      rw [hc] at hr
      simp only [Bool.and_true] at hr
      have hb1 := hb0.alloc hb0.size (.cells #[.int .i64 a] 3)
      cases hra : regB a <;> cases hb : (b == 0) <;> rw [hra, hb] at hr <;> simp only [Bool.false_and, Bool.true_and] at hr <;> subst hr
      all_goals
        have ka := creg1 a _ hra
        go_enter Try.func96, Try.ntmps96
        go_wp2_with fail
        refine (ka _ _ (by first | rfl | simp)).mono ?_
        rintro e w' ⟨rfl, rfl⟩
        go_wp2_with fail
        first
        | (refine (kv _).mono ?_
           rintro e w2 ⟨rfl, k2⟩
           have c2 := hb1.trans (k2.mono hb1.size)
           go_wp2_with fail
           go_ret
           exact ⟨rfl, c2⟩)
        | (go_ret
           exact ⟨rfl, hb1⟩)
  · have o0' : (op == 0) = false := by simpa using o0
    have o0n : (op != 0) = true := by simpa using o0
    rw [o0', if_neg o0] at hr
    simp only [Bool.false_or] at hr
    cases he : tree.toList.isEmpty with
    | false =>
      rw [he] at hr
      simp only [Bool.false_and, Bool.and_false] at hr
      subst hr
      have hen : (!tree.toList.isEmpty) = true := by rw [he]; rfl
      go_enter Try.func96, Try.ntmps96
      go_wp2_with fail
      go_ret
      exact ⟨rfl, hb0⟩
    | true =>
      have hen : (!tree.toList.isEmpty) = false := by rw [he]; rfl
      rw [he] at hr
      simp only [Bool.and_true] at hr
      by_cases o2 : op = 2
      · subst o2
        rw [if_neg (by decide), if_pos rfl] at hr
        simp only [show ((2 : Int) == 2) = true from rfl, Bool.true_or, Bool.and_true] at hr
        have ka := creg3 a b c r (by rw [← hr, Bool.and_assoc])
        have hb1 := hb0.alloc hb0.size (.cells #[.int .i64 a, .int .i64 b, .int .i64 c] 3)
        clear hr
        go_enter Try.func96, Try.ntmps96
        go_wp2_with fail
        refine (ka _ _ (by first | rfl | simp)).mono ?_
        rintro e w' ⟨rfl, rfl⟩
        go_wp2_with fail
        go_ret
        exact ⟨rfl, hb1⟩
      · have o2' : (op == 2) = false := by simpa using o2
        have o2n : (op != 2) = true := by simpa using o2
        rw [o2'] at hr
        simp only [Bool.false_or] at hr
        cases hc : (c == 0) with
        | false =>
          have hc' : (c != 0) = true := by show (!(c == 0)) = true; rw [hc]; rfl
          rw [hc] at hr
          simp only [Bool.false_and, Bool.and_false] at hr
          subst hr
          go_enter Try.func96, Try.ntmps96
          go_wp2_with fail
          go_ret
          exact ⟨rfl, hb0⟩
        | true =>
          have hc' : (c != 0) = false := by show (!(c == 0)) = false; rw [hc]; rfl
          rw [hc] at hr
          simp only [Bool.and_true] at hr
          by_cases o134 : op = 1 ∨ op = 3 ∨ op = 4
          · rw [if_pos o134] at hr
            have ka := creg2 a b _ hr
            have hb1 := hb0.alloc hb0.size (.cells #[.int .i64 a, .int .i64 b] 3)
            rcases o134 with rfl | rfl | rfl
            all_goals
              go_enter Try.func96, Try.ntmps96
              go_wp2_with fail
              refine (ka _ _ (by first | rfl | simp)).mono ?_
              rintro e w' ⟨rfl, rfl⟩
              go_wp2_with fail
              go_ret
              exact ⟨rfl, hb1⟩
          · rw [if_neg o134, if_neg o2] at hr
            have hb1 := hb0.alloc hb0.size (.cells #[.int .i64 a] 3)
            by_cases o5 : op = 5
            · subst o5
              rw [if_pos rfl] at hr
              have hiI : (i : Int) < n := by omega
              have hnI : (n : Int) ≤ 4000 := by omega
              have hi0 : (0 : Int) ≤ (i : Int) := Int.natCast_nonneg _
              cases hra : regB a <;> cases d1 : decide (-(i : Int) ≤ b) <;> cases d2 : decide (b ≤ (n : Int) - i) <;> rw [hra, d1, d2] at hr
              all_goals
                simp only [Bool.and_self, Bool.and_false, Bool.false_and, Bool.and_true] at hr
                subst hr
                have ka := creg1 a _ hra
                clear w5 hi hn
                go_enter Try.func96, Try.ntmps96
                go_wp2_with fail
                refine (ka _ _ (by first | rfl | simp)).mono ?_
                rintro e w' ⟨rfl, rfl⟩
                go_wp2_with fail
                go_ret
                exact ⟨rfl, hb1⟩
            · rw [if_neg o5] at hr
              have o1' : (op == 1) = false := by simp; omega
              have o3' : (op == 3) = false := by simp; omega
              have o4' : (op == 4) = false := by simp; omega
              have o5' : (op == 5) = false := by simp; omega
              simp only [Bool.and_false] at hr
              subst hr
              go_enter Try.func96, Try.ntmps96
              go_wp2_with fail
              go_ret
              exact ⟨rfl, hb0⟩

end Go.Proofs.Ytieocihlkpipmaa

namespace Go.Proofs.Ytieocihlkpipmaa
open Go.RowKit

set_option maxHeartbeats 2000000 in
theorem codeValidP_any (v : Value) (l : List Ins) (w : World) (hl : InsRow w w.heap.size v l) :
    Calls Try.prog 77 #[v] w fun e w' => e = .returned (.bool (validB l)) ∧ Below w.heap.size w w' := by
  obtain ⟨r, hr⟩ : ∃ r, validB l = r := ⟨_, rfl⟩
  rw [hr]
  have hb0 := hl.2.1
  by_cases h4 : 4000 < l.length
  · rw [validB_long l h4] at hr
    subst hr
    obtain ⟨ao, cap, rfl⟩ := hl.len
    obtain ⟨n, hn'⟩ : ∃ n, l.length = n := ⟨_, rfl⟩
    rw [hn'] at h4 hb0 ⊢
    clear hl hn'
    go_enter Try.func77, Try.ntmps77
    go_wp2
    go_ret
    exact ⟨rfl, Below.refl _ _⟩
  · have hlarge := Lib.hid (validB_large l)
    have heq := Lib.hid (validB_eq l (by omega))
    have htake := Lib.hid (trees_take l)
    have hrf : Hid (∀ (i : Nat) (x : Ins), l[i]? = some x → rightB x i l.length = false → validB l = false) := fun i x hx hb => by
      unfold validB; rw [rightAll_false hx hb]; simp
    obtain ⟨ao, cap, rfl⟩ := hl.len
    obtain ⟨n, hn'⟩ : ∃ n, l.length = n := ⟨_, rfl⟩
    rw [hn'] at h4 hb0 hl hrf ⊢
    have HN := Lib.hid hn'; clear hn'
    have HR := Lib.hid hr; clear hr
    have h4I : (n : Int) ≤ 4000 := by omega
    go_enter Try.func77, Try.ntmps77
    go_wp2
    go_loopg [3, 11] n (fun g s i wr => ∃ k m : Nat, k ≤ n ∧ g = n - k ∧ i = .int .i64 k ∧ s = .int .i64 m ∧ m ≤ 2000000 ∧ Aside (m = trees (l.take k)) ∧ Aside (rightTo l k) ∧ Below w.heap.size w wr)
    case atStart => exact ⟨0, 0, Nat.zero_le _, rfl, rfl, rfl, by omega, rfl, (fun j x hj => absurd hj (Nat.not_lt_zero _)), Below.refl _ _⟩
    case round =>
      obtain ⟨k, m, hk, hg, rfl, rfl, hm, hs, hv, hbw⟩ := hrel
      have HG := Lib.hid hg; clear hg
      by_cases hlt : k < n
      · obtain ⟨x, hx⟩ : ∃ s, l[k]? = some s := ⟨_, List.getElem?_eq_getElem (by rw [HN.out]; exact hlt)⟩
        have hl2 := hl.below hbw
        obtain ⟨g, off, rfl, hg, c0, c1, c2, c3, c4⟩ := hl2.get hx
        have hwf := hl.wf hx
        have HX := Lib.hid hx; clear hx
        have kr := fun w => cright_any x.op x.a x.b x.c x.tree hwf k n hlt (by omega) w
        obtain ⟨q, hq⟩ : ∃ q, rightB x k n = q := ⟨_, rfl⟩
        rw [show rightB ⟨x.op, x.a, x.b, x.c, x.tree⟩ k n = q from hq] at kr
        have HQ := Lib.hid hq
        have hz := hwf.2.2.2.2
        clear hq hwf hl2
        have hi0 : (0 : Int) ≤ (k : Int) := Int.natCast_nonneg _
        have hi1 : (k : Int) < (n : Int) := by omega
        have hsn : Hid (trees (l.take (k + 1)) = m + x.tree.size) := by show _ = _; rw [take_snoc' _ _ _ HX.out, trees_snoc, ← hs.out]
        have hmI : (m : Int) ≤ 2000000 := by omega
        have hb1 := hbw.alloc hbw.size (.cells #[.int .i64 x.op, .int .i64 x.a, .int .i64 x.b, .int .i64 x.c, .string x.tree] 73)
        by_cases hz1 : x.tree.size ≤ 2000001
        · have hzI : (x.tree.size : Int) ≤ 2000001 := by omega
          by_cases hz2 : m + x.tree.size ≤ 2000000
          · have hz2I : (m : Int) + x.tree.size ≤ 2000000 := by omega
            cases q with
            | true =>
              go_wp2_with fail
              refine (kr _).mono ?_
              rintro e w' ⟨rfl, k2⟩
              have c2 := hb1.trans (k2.mono hb1.size)
              clear k2
              go_wp2
              go_roundg (n - (k + 1))
              case measure => rw [HG.out]; omega
              case rel => exact ⟨k + 1, m + x.tree.size, by omega, rfl, by go_num, by go_num, hz2, hsn.out.symm, rightTo_snoc hv.out HX.out (by rw [HN.out]; exact HQ.out), c2⟩
            | false =>
              go_wp2_with fail
              refine (kr _).mono ?_
              rintro e w' ⟨rfl, k2⟩
              have c2 := hb1.trans (k2.mono hb1.size)
              clear k2
              have hf : Hid (r = false) := HR.out.symm.trans (hrf.out _ _ HX.out HQ.out)
              go_wp2
              go_ret
              exact ⟨by rw [hf.out]; rfl, c2⟩
          · have hz2I : ¬ (m : Int) + x.tree.size ≤ 2000000 := by omega
            have hf : Hid (r = false) := HR.out.symm.trans (hlarge.out (by have := htake.out (k + 1); rw [hsn.out] at this; omega))
            clear kr
            go_wp2
            go_ret
            exact ⟨by rw [hf.out]; rfl, hb1⟩
        · have hzI : ¬ (x.tree.size : Int) ≤ 2000001 := by omega
          have hf : Hid (r = false) := HR.out.symm.trans (hlarge.out (by have := htake.out (k + 1); rw [hsn.out] at this; omega))
          clear kr
          go_wp2
          go_ret
          exact ⟨by rw [hf.out]; rfl, hb1⟩
      · have hf : Hid (r = true) := HR.out.symm.trans ((heq.out (by have := hs.out; rw [List.take_of_length_le (by rw [HN.out]; omega)] at this; omega)).trans (rightTo_all hv.out (by rw [HN.out]; omega)))
        go_wp2
        go_ret
        exact ⟨by rw [hf.out]; rfl, hbw⟩

end Go.Proofs.Ytieocihlkpipmaa

namespace Go.Proofs.Ytieocihlkpipmaa
open Go.RowKit

theorem codeValidP_at (v : Value) (l : List Ins) (w : World) (hl : InsRow w w.heap.size v l) (b : Bool) (hb : validB l = b) :
    Calls Try.prog 77 #[v] w fun e w' => e = .returned (.bool b) ∧ Below w.heap.size w w' := by
  rw [← hb]; exact codeValidP_any v l w hl
theorem treeValid_at (s : ByteArray) (hs : s.size ≤ 140737488355328) (b : Bool) (hb : isTree s = b) (w : World) :
    Calls Try.prog 44 #[.string s] w fun e w' => e = .returned (.bool b) ∧ Below w.heap.size w w' := by
  rw [← hb]; exact treeValid_any s (by omega) w
theorem validB_len {l : List Ins} (h : validB l = true) : l.length ≤ 4000 := by
  unfold validB at h; simp only [Bool.and_eq_true, decide_eq_true_eq] at h; exact h.1.1
theorem validB_all {l : List Ins} (h : validB l = true) : rightAll l = true := by
  unfold validB at h; simp only [Bool.and_eq_true] at h; exact h.2

set_option maxHeartbeats 1000000 in
theorem begin_form (v : Value) (l : List Ins) (s : ByteArray) (k : Int) (w : World) (hl : InsRow w w.heap.size v l) (hs : s.size ≤ 140737488355328) (h : validB l = false ∨ isTree s = false) :
    Calls Try.prog 68 #[v, .string s, .int .i64 k] w fun e w' => e = .returned (.tuple #[.pointer none, .int .i64 1]) ∧ Below w.heap.size w w' := by
  cases hv : validB l with
  | false =>
    have kv := codeValidP_at v l w hl _ hv
    clear h hv
    obtain ⟨ao, cap, rfl⟩ := hl.len
    go_enter Try.func68, Try.ntmps68
    go_wp2_with fail
    refine kv.mono ?_
    rintro e w1 ⟨rfl, k1⟩
    go_wp2
    go_ret2
    exact ⟨rfl, k1⟩
  | true =>
    have ht : isTree s = false := by rcases h with h | h; rw [hv] at h; cases h; exact h
    have kv := codeValidP_at v l w hl _ hv
    have kt := treeValid_at s hs _ ht
    clear h hv
    obtain ⟨ao, cap, rfl⟩ := hl.len
    go_enter Try.func68, Try.ntmps68
    go_wp2_with fail
    refine kv.mono ?_
    rintro e w1 ⟨rfl, k1⟩
    go_wp2_with fail
    refine (kt _).mono ?_
    rintro e w2 ⟨rfl, k2⟩
    go_wp2
    go_ret2
    exact ⟨rfl, k1.trans (k2.mono k1.size)⟩

set_option maxHeartbeats 1000000 in
theorem begin_arg (v : Value) (l : List Ins) (s : ByteArray) (k : Int) (w : World) (hl : InsRow w w.heap.size v l) (hs : s.size ≤ 140737488355328) (hv : validB l = true) (ht : isTree s = true) (hk : k < 0 ∨ 10000000 < k) :
    Calls Try.prog 68 #[v, .string s, .int .i64 k] w fun e w' => e = .returned (.tuple #[.pointer none, .int .i64 2]) ∧ Below w.heap.size w w' := by
  have kv := codeValidP_at v l w hl _ hv
  have kt := treeValid_at s hs _ ht
  clear hv ht
  obtain ⟨ao, cap, rfl⟩ := hl.len
  rcases hk with hk | hk
  all_goals
    go_enter Try.func68, Try.ntmps68
    go_wp2_with fail
    refine kv.mono ?_
    rintro e w1 ⟨rfl, k1⟩
    go_wp2_with fail
    refine (kt _).mono ?_
    rintro e w2 ⟨rfl, k2⟩
    go_wp2
    go_ret2
    exact ⟨rfl, k1.trans (k2.mono k1.size)⟩

set_option maxHeartbeats 1000000 in
theorem begin_ok (v : Value) (l : List Ins) (t : Tr) (ht : t.size ≤ 2000000) (k : Int) (w : World) (hl : InsRow w w.heap.size v l) (hv : validB l = true) (hk0 : 0 ≤ k) (hk1 : k ≤ 10000000) :
    Calls Try.prog 68 #[v, .string (TS t), .int .i64 k] w fun e w' => ∃ B g sv ps, e = .returned (.tuple #[.pointer (some ⟨g, 0, none⟩), .int .i64 0]) ∧ MachP w' B g l (startS t) v sv ps ∧ w.heap.size ≤ B ∧ Below w.heap.size w w' := by
  have kv := codeValidP_at v l w hl _ hv
  have kt := treeValid_at (TS t) (by rw [TS_size]; omega) _ (isTree_TS t ht)
  have kp := fun w => parse_tr (TS t) (by rw [TS_size]; omega) w
  rw [toTr_TS t ht, isTree_TS t ht] at kp
  have h4 := validB_len hv
  have kn := fun x w' (h : InsRow w' w'.heap.size v l) (hx : NodeP 138 w' t x) => newMachine_any v l t x w' h h4 hx
  have hl0 := hl
  obtain ⟨ao, cap, rfl⟩ := hl.len
  clear hv ht h4
  generalize TS t = S at *
  go_enter Try.func68, Try.ntmps68
  go_wp2_with fail
  refine kv.mono ?_
  rintro e w1 ⟨rfl, k1⟩
  go_wp2_with fail
  refine (kt _).mono ?_
  rintro e w2 ⟨rfl, k2⟩
  have c2 := k1.trans (k2.mono k1.size)
  clear k1 k2
  go_wp2_with fail
  refine (kp _).mono ?_
  rintro e w3 ⟨p, rfl, k3, hn⟩
  have c3 := c2.trans (k3.mono c2.size)
  have hl3 := (hl0.below c3).mono c3.size
  clear c2 k3
  go_wp2_with fail
  refine (kn _ _ hl3 hn).mono ?_
  rintro e w4 ⟨g, sv, ps, rfl, hm, k4⟩
  have c4 := c3.trans (k4.mono c3.size)
  go_wp2
  go_ret2
  exact ⟨_, _, _, _, rfl, hm, c3.size, c4⟩

end Go.Proofs.Ytieocihlkpipmaa

namespace Go.Proofs.Ytieocihlkpipmaa
open Go.RowKit

/-- What First and Step hand back where it went well, and where not. -/
def StateOk (w : World) (s : St) (e : Ending) (w' : World) : Prop := ∃ v, e = .returned (.tuple #[.agg #[.int .i64 s.pos, v], .int .i64 0]) ∧ StrRow w' w'.heap.size v (s.regs.map TS) ∧ Below w.heap.size w w'
def StateBad (w : World) (er : Int) (e : Ending) (w' : World) : Prop := e = .returned (.tuple #[.agg #[.int .i64 0, .slice none 0 0], .int .i64 er]) ∧ Below w.heap.size w w'

theorem StrRow.set {w : World} {B b T : Nat} {cs : Array Value} {v : Value} {l : List ByteArray} (h : StrRow w B v l) (hb : w.heap[b]? = some (.cells cs T (0, 0))) (hns : ∀ (j : Nat) (s : ByteArray), cs[j]? ≠ some (.string s)) (j : Nat) (u : Value) : StrRow (w.setCell ⟨b, j, none⟩ u) B v l := by
  obtain ⟨h1, h2, h3⟩ := h
  refine ⟨h1, h2, ?_⟩
  rcases h3 with h3 | ⟨g, off, cap, hv, hg, hc⟩
  · exact .inl h3
  · refine .inr ⟨g, off, cap, hv, hg, fun i s hi => ?_⟩
    have h4 := hc i s hi
    by_cases e : g = b
    · subst e
      rw [(block_cells hb).1] at h4
      exact absurd h4 (hns _ _)
    · exact (World.cell?_of_block (Below.heap_setCell _ _ _ _ (by show g ≠ b; exact e))).trans h4
/-- A state's two cells, written. -/
theorem state_cells {w w5 : World} {b : Nat} {n : Int} {u v x : Value} {l : List ByteArray} (hv : v.oneCell' = true) (h : w5.heap[b]? = some (.cells #[.int .i64 n, .slice none 0 0] 53 (0, 0))) (hr : StrRow w5 w5.heap.size v l) (hb : Below w.heap.size w w5) (hle : w.heap.size ≤ b) (p : Int) (hx : ∃ a k c, v = .slice a k c) :
    ((w5.setCell ⟨b, 0, none⟩ (.int .i64 p)).setCell ⟨b, 1, none⟩ v).cell? ⟨b, 0, none⟩ = some (.int .i64 p) ∧ ((w5.setCell ⟨b, 0, none⟩ (.int .i64 p)).setCell ⟨b, 1, none⟩ v).cell? ⟨b, 1, none⟩ = some v ∧
    StrRow ((w5.setCell ⟨b, 0, none⟩ (.int .i64 p)).setCell ⟨b, 1, none⟩ v) ((w5.setCell ⟨b, 0, none⟩ (.int .i64 p)).setCell ⟨b, 1, none⟩ v).heap.size v l ∧ Below w.heap.size w ((w5.setCell ⟨b, 0, none⟩ (.int .i64 p)).setCell ⟨b, 1, none⟩ v) := by
  have h1 := set_blk h 0 (.int .i64 p)
  have h2 := set_blk h1 1 v
  have q0 := (block_cells h2).1 0
  have q1 := (block_cells h2).1 1
  simp only [List.setIfInBounds_toArray, List.set_cons_zero, List.set_cons_succ, List.getElem?_toArray, List.getElem?_cons_zero, List.getElem?_cons_succ] at q0 q1
  have hs : ((w5.setCell ⟨b, 0, none⟩ (.int .i64 p)).setCell ⟨b, 1, none⟩ v).heap.size = w5.heap.size := by simp [World.setCell]
  refine ⟨q0, q1, ?_, (hb.setCell (p := ⟨b, 0, none⟩) hle _).setCell (p := ⟨b, 1, none⟩) hle _⟩
  rw [hs]
  refine (hr.set h ?_ 0 _).set h1 ?_ 1 _
  · intro j s e
    match j with
    | 0 => simp at e
    | 1 => simp at e
    | j + 2 => simp at e
  · intro j s e
    match j with
    | 0 => simp at e
    | 1 => simp at e
    | j + 2 => simp at e

set_option maxHeartbeats 1000000 in
theorem first_ok (v : Value) (l : List Ins) (t : Tr) (ht : t.size ≤ 2000000) (w : World) (hl : InsRow w w.heap.size v l) (hv : validB l = true) :
    Calls Try.prog 55 #[v, .string (TS t)] w (StateOk w (startS t)) := by
  have kv := fun w' (h : InsRow w' w'.heap.size v l) => codeValidP_at v l w' h _ hv
  have kt := treeValid_at (TS t) (by rw [TS_size]; omega) _ (isTree_TS t ht)
  have kp := fun w => parse_tr (TS t) (by rw [TS_size]; omega) w
  rw [toTr_TS t ht, isTree_TS t ht] at kp
  have h4 := validB_len hv
  have hG := Lib.hid (Good.start l.length t ht)
  have kn := fun x w' (h : InsRow w' w'.heap.size v l) (hx : NodeP 138 w' t x) => newMachine_any v l t x w' h h4 hx
  have hl0 := hl
  obtain ⟨ao, cap, rfl⟩ := hl.len
  have hb0 := (Below.refl _ w).alloc (Nat.le_refl _) (.cells #[.int .i64 0, .slice none 0 0] 53)
  have hblk0 : (w.alloc (.cells #[.int .i64 0, .slice none 0 0] 53)).heap[w.heap.size]? = some (.cells #[.int .i64 0, .slice none 0 0] 53 (0, 0)) := heap_alloc_new w _
  have hl1 := (hl0.below hb0).mono hb0.size
  clear hv ht h4
  generalize TS t = S at kt kp
  go_enter Try.func55, Try.ntmps55
  go_wp2_with fail
  refine (kv _ hl1).mono ?_
  rintro e w1 ⟨rfl, k1⟩
  have c1 := hb0.trans (k1.mono hb0.size)
  have b1 := (k1.block w.heap.size (by simp)).trans hblk0
  clear k1 hb0 hl1 hblk0
  go_wp2_with fail
  refine (kt _).mono ?_
  rintro e w2 ⟨rfl, k2⟩
  have c2 := c1.trans (k2.mono c1.size)
  have b2 := (k2.block w.heap.size (Array.getElem?_eq_some_iff.1 b1).1).trans b1
  clear k2 c1 b1
  go_wp2_with fail
  refine (kp _).mono ?_
  rintro e w3 ⟨p, rfl, k3, hn⟩
  have c3 := c2.trans (k3.mono c2.size)
  have b3 := (k3.block w.heap.size (Array.getElem?_eq_some_iff.1 b2).1).trans b2
  have hl3 := (hl0.below c3).mono c3.size
  clear c2 k3 b2
  go_wp2_with fail
  refine (kn _ _ hl3 hn).mono ?_
  rintro e w4 ⟨g, sv, ps, rfl, hm, k4⟩
  have c4 := c3.trans (k4.mono c3.size)
  have b4 := (k4.block w.heap.size (Array.getElem?_eq_some_iff.1 b3).1).trans b3
  clear c3 k4 b3 hl3
  go_wp2_with fail
  refine (state_any _ _ _ _ _ _ _ _ hm hG.out).mono ?_
  rintro e w5 ⟨vs, rfl, hr, k5⟩
  have c5 := c4.trans (k5.mono c4.size)
  have b5 := (k5.block w.heap.size (Array.getElem?_eq_some_iff.1 b4).1).trans b4
  obtain ⟨L, hL⟩ : ∃ L, (startS t).regs.map TS = L := ⟨_, rfl⟩
  rw [hL] at hr
  have HL := Lib.hid hL
  clear hL
  obtain ⟨a5, cp5, rfl⟩ := hr.len
  have q0 := (block_cells b5).1 0
  have q1 := (block_cells b5).1 1
  have f0 := (block_cells b5).2 0
  have f1 := (block_cells b5).2 1
  simp only [List.getElem?_toArray, List.getElem?_cons_zero, List.getElem?_cons_succ] at q0 q1
  clear k5 c4 b4 hm
  go_wp2
  obtain ⟨z0, z1, z2, z3⟩ := state_cells (u := .pointer none) (x := .pointer none) rfl b5 hr c5 (Nat.le_refl _) ((startS t).pos : Int) ⟨_, _, _, rfl⟩
  refine bodyPost_ret (v := .tuple #[.agg #[.int .i64 ((startS t).pos : Nat), .slice a5 L.length cp5], .int .i64 0]) (by simp [results, Try.results55, go_sem, z0, z1]) rfl ?_
  exact ⟨_, rfl, by rw [HL.out]; exact z2, z3⟩

theorem zero_cells {w w5 : World} {b : Nat} {n : Int} {u : Value} (h : w5.heap[b]? = some (.cells #[.int .i64 n, u] 53 (0, 0))) (hb : Below w.heap.size w w5) (hle : w.heap.size ≤ b) :
    ((w5.setCell ⟨b, 0, none⟩ (.int .i64 0)).setCell ⟨b, 1, none⟩ (.slice none 0 0)).cell? ⟨b, 0, none⟩ = some (.int .i64 0) ∧ ((w5.setCell ⟨b, 0, none⟩ (.int .i64 0)).setCell ⟨b, 1, none⟩ (.slice none 0 0)).cell? ⟨b, 1, none⟩ = some (.slice none 0 0) ∧
    Below w.heap.size w ((w5.setCell ⟨b, 0, none⟩ (.int .i64 0)).setCell ⟨b, 1, none⟩ (.slice none 0 0)) := by
  have h1 := set_blk h 0 (.int .i64 0)
  have h2 := set_blk h1 1 (.slice none 0 0)
  have q0 := (block_cells h2).1 0
  have q1 := (block_cells h2).1 1
  simp only [List.setIfInBounds_toArray, List.set_cons_zero, List.set_cons_succ, List.getElem?_toArray, List.getElem?_cons_zero, List.getElem?_cons_succ] at q0 q1
  exact ⟨q0, q1, (hb.setCell (p := ⟨b, 0, none⟩) hle _).setCell (p := ⟨b, 1, none⟩) hle _⟩

set_option maxHeartbeats 1000000 in
theorem first_bad (v : Value) (l : List Ins) (s : ByteArray) (hs : s.size ≤ 140737488355328) (w : World) (hl : InsRow w w.heap.size v l) (h : validB l = false ∨ isTree s = false) :
    Calls Try.prog 55 #[v, .string s] w (StateBad w 1) := by
  have hl0 := hl
  have hb0 := (Below.refl _ w).alloc (Nat.le_refl _) (.cells #[.int .i64 0, .slice none 0 0] 53)
  have hblk0 : (w.alloc (.cells #[.int .i64 0, .slice none 0 0] 53)).heap[w.heap.size]? = some (.cells #[.int .i64 0, .slice none 0 0] 53 (0, 0)) := heap_alloc_new w _
  have hl1 := (hl0.below hb0).mono hb0.size
  cases hv : validB l with
  | false =>
    have kv := fun w' (h : InsRow w' w'.heap.size v l) => codeValidP_at v l w' h _ hv
    clear hv h
    obtain ⟨ao, cap, rfl⟩ := hl.len
    go_enter Try.func55, Try.ntmps55
    go_wp2_with fail
    refine (kv _ hl1).mono ?_
    rintro e w1 ⟨rfl, k1⟩
    have c1 := hb0.trans (k1.mono hb0.size)
    have b1 := (k1.block w.heap.size (by simp)).trans hblk0
    clear k1 hb0 hl1 hblk0
    have q0 := (block_cells b1).1 0
    have q1 := (block_cells b1).1 1
    have f0 := (block_cells b1).2 0
    have f1 := (block_cells b1).2 1
    simp only [List.getElem?_toArray, List.getElem?_cons_zero, List.getElem?_cons_succ] at q0 q1
    obtain ⟨z0, z1, z3⟩ := zero_cells b1 c1 (Nat.le_refl _)
    go_wp2
    refine bodyPost_ret (v := .tuple #[.agg #[.int .i64 0, .slice none 0 0], .int .i64 1]) (by simp [results, Try.results55, go_sem, z0, z1]) rfl ?_
    exact ⟨rfl, z3⟩
  | true =>
    have ht : isTree s = false := by rcases h with h | h; rw [hv] at h; cases h; exact h
    have kv := fun w' (h : InsRow w' w'.heap.size v l) => codeValidP_at v l w' h _ hv
    have kt := treeValid_at s hs _ ht
    clear hv h
    obtain ⟨ao, cap, rfl⟩ := hl.len
    go_enter Try.func55, Try.ntmps55
    go_wp2_with fail
    refine (kv _ hl1).mono ?_
    rintro e w0 ⟨rfl, k1⟩
    have c0 := hb0.trans (k1.mono hb0.size)
    have b0 := (k1.block w.heap.size (by simp)).trans hblk0
    clear k1 hb0 hl1 hblk0
    go_wp2_with fail
    refine (kt _).mono ?_
    rintro e w1 ⟨rfl, k2⟩
    have c1 := c0.trans (k2.mono c0.size)
    have b1 := (k2.block w.heap.size (Array.getElem?_eq_some_iff.1 b0).1).trans b0
    clear k2 c0 b0
    have q0 := (block_cells b1).1 0
    have q1 := (block_cells b1).1 1
    have f0 := (block_cells b1).2 0
    have f1 := (block_cells b1).2 1
    simp only [List.getElem?_toArray, List.getElem?_cons_zero, List.getElem?_cons_succ] at q0 q1
    obtain ⟨z0, z1, z3⟩ := zero_cells b1 c1 (Nat.le_refl _)
    go_wp2
    refine bodyPost_ret (v := .tuple #[.agg #[.int .i64 0, .slice none 0 0], .int .i64 1]) (by simp [results, Try.results55, go_sem, z0, z1]) rfl ?_
    exact ⟨rfl, z3⟩

end Go.Proofs.Ytieocihlkpipmaa


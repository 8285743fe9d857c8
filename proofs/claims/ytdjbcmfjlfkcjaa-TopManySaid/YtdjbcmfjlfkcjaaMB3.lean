/- code.Code. The walk of code.Code. know: Clear, before, join. know.join; the code of a program is a tree. What a tree is the code of, in plain words. Trees by their rank, and the programs among them, in plain words. order.Unrank. Programs out of programs: Const, Then. Programs out of programs: build.Then. Programs out of programs: build.While. Plain: a program that stands within another one; which programs are valid. The reference's Fits of layer 4. law04's tail. law04's copied and alike: copies of a list of programs. code.value, code.pair: on a tree, or on no tree. The walk of narcissuslaw03.copied. And append of another slice's elements, as a step of a region that draws. The walk of run.Step. The walks of narcissuslaw03: RunSteps. code.fields: how the fields of an instruction are read. code.fields: how the fields of a jump are read. code.fields: its readers; the instruction that they read. The walks of tree.Items and its closure. The walks of narcissuslaw01: awake and TreeConses. The walks of the laws of narcissuslaw01. The walk of TreeReads. -/
import Derived.Test.YtdjbcmfjlfkcjaaMB2
import Derived.Shelf.Strings.BuilderK
import Derived.Test.YtdjbcmfjlfkcjaaMB0
import Derived.Test.YtdjbcmfjlfkcjaaMB1
namespace Go.Proofs.Ytdjbcmfjlfkcjaa
open Go.RowKit

theorem isB_below {T e : TypeId} {B b : Nat} {bs : List Value} {w w' : World} (h : Lib.IsBuilder T e B b bs w) (hb : Below w.heap.size w w') : Lib.IsBuilder T e B b bs w' := by
  rcases h with ⟨h1, v, h2, h3, h4⟩ | ⟨h1, v, h2, h3, h4⟩
  · exact .inl ⟨h1, v, (hb.block b (Array.getElem?_eq_some_iff.1 h2).1).trans h2, own_below h3 hb, h4⟩
  · exact .inr ⟨h1, v, (hb.block b (Array.getElem?_eq_some_iff.1 h2).1).trans h2, own_below h3 hb, h4⟩
theorem isB_lt {T e : TypeId} {B b : Nat} {bs : List Value} {w : World} (h : Lib.IsBuilder T e B b bs w) : b < w.heap.size := by
  rcases h with ⟨_, v, h2, _⟩ | ⟨_, v, h2, _⟩ <;> exact (Array.getElem?_eq_some_iff.1 h2).1
/-- The code of a program, without its end. -/
def ciL (x : Ins) : List UInt8 := (⟨#[49, 49]⟩ ++ TS (.num x.op.toNat)).data.toList ++ (bodyB x).data.toList
def codeLs (l : List Ins) : List UInt8 := (l.map ciL).flatten
def codeOf (l : List Ins) : ByteArray := ⟨(codeLs l ++ [48]).toArray⟩
theorem codeLs_succ (l : List Ins) (k : Nat) {x : Ins} (hx : l[k]? = some x) : codeLs (l.take (k + 1)) = codeLs (l.take k) ++ ciL x := by rw [take_snoc' _ _ _ hx]; unfold codeLs; simp
theorem codeLs_take (l : List Ins) (k : Nat) : (codeLs (l.take k)).length ≤ (codeLs l).length := by
  have h : codeLs l = codeLs (l.take k) ++ codeLs (l.drop k) := by
    conv => lhs; rw [← List.take_append_drop k l]
    unfold codeLs; rw [List.map_append, List.flatten_append]
  rw [h]; simp
theorem right_op {x : Ins} {i n : Int} (h : rightB x i n = true) : x.op = 0 ∨ x.op = 1 ∨ x.op = 2 ∨ x.op = 3 ∨ x.op = 4 ∨ x.op = 5 := by
  unfold rightB at h
  simp only [Bool.and_eq_true] at h
  have h3 := h.2
  by_cases h0 : x.op = 0
  · exact .inl h0
  · rw [if_neg h0] at h3
    by_cases h1 : x.op = 1 ∨ x.op = 3 ∨ x.op = 4
    · rcases h1 with h | h | h <;> simp [h]
    · rw [if_neg h1] at h3
      by_cases h2 : x.op = 2
      · simp [h2]
      · rw [if_neg h2] at h3
        by_cases h5 : x.op = 5
        · simp [h5]
        · rw [if_neg h5] at h3; cases h3
theorem right_tree {x : Ins} {i n : Int} (h : rightB x i n = true) : x.tree.size ≤ 2000000 := by
  unfold rightB at h
  simp only [Bool.and_eq_true] at h
  by_cases h0 : x.op = 0
  · have h3 := h.2
    rw [if_pos h0, Bool.and_eq_true] at h3
    obtain ⟨t, ht, hs⟩ := isTree_get h3.2
    rw [ht, TS_size]; exact hs
  · have h4 := h.1.1.2
    have : x.tree.toList.isEmpty = true := by
      rw [Bool.or_eq_true] at h4
      exact h4.resolve_left (fun e => h0 (by simpa using e))
    have hz : x.tree.toList = [] := by simpa using this
    have h5 : x.tree.size = x.tree.toList.length := by rw [Lib.toList_data]; simp
    rw [h5, hz]; simp
theorem right_jump {x : Ins} {i n : Int} (h : rightB x i n = true) (h5 : x.op = 5) : -i ≤ x.b ∧ x.b ≤ n - i := by
  unfold rightB at h
  simp only [Bool.and_eq_true] at h
  have h3 := h.2
  rw [if_neg (by omega), if_neg (by omega), if_neg (by omega), if_pos h5] at h3
  simpa using h3
/-- The writer of an instruction's fields, and what it writes. -/
theorem fields_put {x : Ins} {i n : Int} (hr : rightB x i n = true) (hi : 0 ≤ i ∧ i ≤ 4000 ∧ n ≤ 4000) : ∃ PF : Nat,
    (∀ w : World, Calls Try.prog 118 #[.int .i64 x.op] w fun e w' => ∃ g, e = .returned (.agg #[.func (.func PF) #[] #[], g]) ∧ Below w.heap.size w w') ∧
    (∀ w : World, Calls Try.prog PF #[.agg #[.int .i64 x.op, .int .i64 x.a, .int .i64 x.b, .int .i64 x.c, .string x.tree]] w fun e w' => e = .returned (.string (bodyB x)) ∧ Below w.heap.size w w') ∧ (∀ args w, (callFunc PF args).run Try.prog w = .ok (.enter PF args) w) ∧ (bodyB x).size ≤ 4000000 ∧ ∃ m : Nat, x.op = m ∧ m ≤ 5 := by
  have ht := right_tree hr
  obtain ⟨a, ha, ha2, hbc⟩ := right_nats hr
  have hop := right_op hr
  have hsz : ∀ n : Nat, (TS (.num n)).size = 2 * n + 1 := num_size
  obtain ⟨op, xa, b, c, t⟩ := x
  simp only at ha hop hbc ht
  subst ha
  rcases hop with rfl | rfl | rfl | rfl | rfl | rfl
  · refine ⟨_, fields_set, fun w => put_set 0 b c t ht a (by omega) w, enters_of Try.func146 (by kernel_rfl) rfl, ?_, 0, rfl, by omega⟩
    simp [bodyB, ByteArray.size_append, hsz]
    show 1 + (2 * a + 1) + t.size ≤ _
    omega
  · obtain ⟨b', c', rfl, rfl, h1, h2⟩ := hbc (by decide)
    refine ⟨_, fields_r1, fun w => put_regs 1 c' t ht a (by omega) b' (by omega) w, enters_of Try.func166 (by kernel_rfl) rfl, ?_, 1, rfl, by omega⟩
    simp [bodyB, ByteArray.size_append, hsz]
    show 1 + (2 * a + 1) + (2 * b' + 1) ≤ _
    omega
  · obtain ⟨b', c', rfl, rfl, h1, h2⟩ := hbc (by decide)
    refine ⟨_, fields_cons, fun w => put_cons 2 t ht a (by omega) b' (by omega) c' (by omega) w, enters_of Try.func148 (by kernel_rfl) rfl, ?_, 2, rfl, by omega⟩
    simp [bodyB, ByteArray.size_append, hsz]
    show 1 + (2 * a + 1) + 1 + (2 * b' + 1) + (2 * c' + 1) ≤ _
    omega
  · obtain ⟨b', c', rfl, rfl, h1, h2⟩ := hbc (by decide)
    refine ⟨_, fields_r3, fun w => put_regs 3 c' t ht a (by omega) b' (by omega) w, enters_of Try.func166 (by kernel_rfl) rfl, ?_, 3, rfl, by omega⟩
    simp [bodyB, ByteArray.size_append, hsz]
    show 1 + (2 * a + 1) + (2 * b' + 1) ≤ _
    omega
  · obtain ⟨b', c', rfl, rfl, h1, h2⟩ := hbc (by decide)
    refine ⟨_, fields_r4, fun w => put_regs 4 c' t ht a (by omega) b' (by omega) w, enters_of Try.func166 (by kernel_rfl) rfl, ?_, 4, rfl, by omega⟩
    simp [bodyB, ByteArray.size_append, hsz]
    show 1 + (2 * a + 1) + (2 * b' + 1) ≤ _
    omega
  · have hj := right_jump hr rfl
    simp only at hj
    by_cases hneg : b < 0
    · obtain ⟨j, rfl⟩ : ∃ j : Nat, b = -(j : Int) := ⟨(-b).toNat, by omega⟩
      refine ⟨_, fields_jump, fun w => ?_, enters_of Try.func150 (by kernel_rfl) rfl, ?_, 5, rfl, by omega⟩
      · have := put_back 5 c t ht a (by omega) j (by omega) (by omega) w
        unfold bodyB
        simp only [show ¬ (5 : Int) = 0 by decide, show ¬ (5 : Int) = 2 by decide, if_false, if_true, if_pos hneg]
        rw [show (-(-(j : Int))).toNat = j by omega, Int.toNat_natCast]
        exact this
      · unfold bodyB
        simp only [show ¬ (5 : Int) = 0 by decide, show ¬ (5 : Int) = 2 by decide, if_false, if_true, if_pos hneg]
        rw [show (-(-(j : Int))).toNat = j by omega, Int.toNat_natCast]
        simp [ByteArray.size_append, hsz]
        show 1 + (2 * a + 1) + 4 + (2 * j + 1) ≤ _
        omega
    · obtain ⟨j, rfl⟩ : ∃ j : Nat, b = (j : Int) := ⟨b.toNat, by omega⟩
      refine ⟨_, fields_jump, fun w => ?_, enters_of Try.func150 (by kernel_rfl) rfl, ?_, 5, rfl, by omega⟩
      · have := put_on 5 c t ht a (by omega) j (by omega) w
        unfold bodyB
        simp only [show ¬ (5 : Int) = 0 by decide, show ¬ (5 : Int) = 2 by decide, if_false, if_true, if_neg hneg]
        rw [Int.toNat_natCast, Int.toNat_natCast]
        exact this
      · unfold bodyB
        simp only [show ¬ (5 : Int) = 0 by decide, show ¬ (5 : Int) = 2 by decide, if_false, if_true, if_neg hneg]
        rw [Int.toNat_natCast, Int.toNat_natCast]
        simp [ByteArray.size_append, hsz]
        show 1 + (2 * a + 1) + 2 + (2 * j + 1) ≤ _
        omega

end Go.Proofs.Ytdjbcmfjlfkcjaa

namespace Go.Proofs.Ytdjbcmfjlfkcjaa
open Go.RowKit

theorem isF_below {T e : TypeId} {B b : Nat} {bs : List Value} {w w' : World} (h : Lib.IsBuilderF T e B b bs w) (hb : Below w.heap.size w w') : Lib.IsBuilderF T e B b bs w' := by
  have own : ∀ {v : Value} {n : Nat} {xs : List Value}, w.ownsRowF B e 1 v n xs → w'.ownsRowF B e 1 v n xs := fun h => by
    refine ⟨h.1, ?_⟩
    rcases h.2 with hn | ⟨g, cap, cur, fz, hv, hbg, hg, rest⟩
    · exact .inl hn
    · exact .inr ⟨g, cap, cur, fz, hv, hbg, (hb.block g (Array.getElem?_eq_some_iff.1 hg).1).trans hg, rest⟩
  rcases h with ⟨h1, v, h2, h3, h4⟩ | ⟨h1, v, h2, h3, h4⟩
  · exact .inl ⟨h1, v, (hb.block b (Array.getElem?_eq_some_iff.1 h2).1).trans h2, own h3, h4⟩
  · exact .inr ⟨h1, v, (hb.block b (Array.getElem?_eq_some_iff.1 h2).1).trans h2, own h3, h4⟩
theorem isF_lt {T e : TypeId} {B b : Nat} {bs : List Value} {w : World} (h : Lib.IsBuilderF T e B b bs w) : b < w.heap.size := by
  rcases h with ⟨_, v, h2, _⟩ | ⟨_, v, h2, _⟩ <;> exact (Array.getElem?_eq_some_iff.1 h2).1
theorem field0 (f g : Value) (w : World) : (Instr.field 156 (.agg #[f, g]) 0).run Try.prog w = .ok f w := by
  simp [Instr.field, go_sem, part, asAgg]
theorem wstr_k (b : Nat) (bs : List Value) (s : ByteArray) (w : World) (h : Lib.IsBuilderF 114 5 b b bs w) (hlen : bs.length + s.size ≤ 140737488355328) :
    Calls Try.prog 130 #[.pointer (some ⟨b, 0, none⟩), .string s] w fun e w' => e = .returned (.tuple #[.int .i64 s.size, .nilIface]) ∧ Lib.IsBuilderF 114 5 b b (bs ++ Lib.strCells s) w' ∧ Below b w w' ∧ Lib.OthersKept 5 (some b) w w' :=
  (Any.Builder_WriteString_k Try.lays166 Try.Builder_Extra_166 b b bs s w h hlen (Nat.le_of_lt (isF_lt h))).mono fun _e _w' h => ⟨h.1, .inr h.2.1, h.2.2⟩
theorem wbyte_k (b : Nat) (bs : List Value) (c : Int) (w : World) (h : Lib.IsBuilderF 114 5 b b bs w) (hlen : bs.length + 1 ≤ 140737488355328) :
    Calls Try.prog 86 #[.pointer (some ⟨b, 0, none⟩), .int .u8 c] w fun e w' => e = .returned .nilIface ∧ Lib.IsBuilderF 114 5 b b (bs ++ [.int .u8 c]) w' ∧ Below b w w' ∧ Lib.OthersKept 5 (some b) w w' :=
  (Any.Builder_WriteByte_k Try.lays167 Try.Builder_Extra_167 b b bs c w h hlen (Nat.le_of_lt (isF_lt h))).mono fun _e _w' h => ⟨h.1, .inr h.2.1, h.2.2⟩
/-- What code.Code hands back. -/
def CodeOut (l : List Ins) : Value := if validB l = false then .tuple #[.string ⟨#[]⟩, .int .i64 1] else if 2000000 < (codeLs l).length + 1 then .tuple #[.string ⟨#[]⟩, .int .i64 3] else .tuple #[.string (codeOf l), .int .i64 0]
theorem ciL_size {x : Ins} (m : Nat) (hm : x.op = m) (hm5 : m ≤ 5) (hb : (bodyB x).size ≤ 4000000) : (ciL x).length ≤ 4000020 := by
  unfold ciL
  have h1 : (⟨#[49, 49]⟩ ++ TS (.num x.op.toNat) : ByteArray).size = 2 + (2 * m + 1) := by rw [ByteArray.size_append, num_size, hm]; rfl
  have h2 : ∀ s : ByteArray, s.data.toList.length = s.size := fun s => by simp
  rw [List.length_append, h2, h2, h1]; omega
theorem codeLs_bound (l : List Ins) (hv : validB l = true) : (codeLs l).length ≤ 4000020 * 4000 := by
  have hl := validB_len hv
  have hx : ∀ x ∈ l, (ciL x).length ≤ 4000020 := by
    intro x hx
    obtain ⟨k, hk, rfl⟩ := List.getElem_of_mem hx
    obtain ⟨PF, _, _, _, h3, m, h4, h5⟩ := fields_put (rightAll_get (validB_all hv) (List.getElem?_eq_getElem hk)) ⟨Int.natCast_nonneg _, by omega, by omega⟩
    exact ciL_size m h4 h5 h3
  have : ∀ k : List Ins, (∀ x ∈ k, (ciL x).length ≤ 4000020) → (codeLs k).length ≤ 4000020 * k.length := by
    intro k
    induction k with
    | nil => intro _; simp [codeLs]
    | cons x k ih =>
      intro h
      have h1 := ih fun y hy => h y (List.mem_cons_of_mem _ hy)
      have h2 := h x (List.mem_cons_self)
      have h3 : codeLs (x :: k) = ciL x ++ codeLs k := by simp [codeLs]
      rw [h3, List.length_append, List.length_cons]; omega
  exact Nat.le_trans (this l hx) (Nat.mul_le_mul_left _ hl)

set_option maxRecDepth 20000 in
theorem code_bad (v : Value) (l : List Ins) (w : World) (hl : InsRow w w.heap.size v l) (hv : validB l = false) :
    Calls Try.prog 104 #[v] w fun e w' => e = .returned (.tuple #[.string ⟨#[]⟩, .int .i64 1]) ∧ Below w.heap.size w w' := by
  have kv := codeValidP_at _ l w hl _ hv
  go_enter Try.func104, Try.ntmps104
  go_wp2_with fail
  refine kv.mono ?_
  rintro e w1 ⟨rfl, hb1⟩
  go_wp2
  go_ret2
  exact ⟨rfl, hb1⟩

set_option maxRecDepth 20000 in
set_option maxHeartbeats 8000000 in
theorem code_ok (v : Value) (l : List Ins) (w : World) (hl : InsRow w w.heap.size v l) (hv : validB l = true) :
    Calls Try.prog 104 #[v] w fun e w' => e = .returned (if 2000000 < (codeLs l).length + 1 then .tuple #[.string ⟨#[]⟩, .int .i64 3] else .tuple #[.string (codeOf l), .int .i64 0]) ∧ Below w.heap.size w w' := by
  have kv := codeValidP_at _ l w hl _ hv
  have hbd := codeLs_bound l hv
  have hl4 := validB_len hv
  obtain ⟨R, hR⟩ : ∃ R, (if 2000000 < (codeLs l).length + 1 then .tuple #[.string ⟨#[]⟩, .int .i64 3] else .tuple #[.string (codeOf l), .int .i64 0] : Value) = R := ⟨_, rfl⟩
  rw [hR]
  have HR := Lib.hid hR
  obtain ⟨ao, cap, rfl⟩ := hl.len
  have hn5 := hl.2.1
  obtain ⟨n, hn'⟩ : ∃ n, l.length = n := ⟨_, rfl⟩
  rw [hn'] at hl hn5 kv hl4 ⊢
  have HN := Lib.hid hn'
  have HL := Lib.hid hl
  have HV := Lib.hid hv
  have HBD := Lib.hid hbd
  clear hn' hl hv hR hbd
  go_enter Try.func104, Try.ntmps104
  go_wp2_with fail
  refine kv.mono ?_
  rintro e w1 ⟨rfl, hb1⟩
  have HB1 := Lib.hid hb1
  clear kv hb1
  have hB0 := Lib.hid (Lib.IsBuilderF.of (Lib.fresh_isBuilder 114 5 w1))
  have hb0 := Lib.hid (HB1.out.alloc HB1.out.size (.cells #[.pointer none, .slice none 0 0] 114))
  go_wp2
  obtain ⟨w2, hW⟩ : ∃ B, w1.alloc (.cells #[.pointer none, .slice none 0 0] 114) = B := ⟨_, rfl⟩
  rw [hW] at hB0 hb0
  try rw [hW]
  have hsz2 := Lib.hid HB1.out.size
  clear hW
  obtain ⟨b, hb⟩ : ∃ b, w1.heap.size = b := ⟨_, rfl⟩
  rw [hb] at hB0 hsz2 ⊢
  clear hb
  go_loopg [12] n (fun gg i wr => ∃ k : Nat, k ≤ n ∧ gg = n - k ∧ i = .int .i64 k ∧ Hid (Lib.IsBuilderF 114 5 b b (Lib.byteCells (codeLs (l.take k))) wr) ∧ Hid (Below w.heap.size w wr))
  case atStart => exact ⟨0, Nat.zero_le _, rfl, rfl, hB0, hb0⟩
  case round =>
    clear hB0 hb0
    obtain ⟨k, hk, hg, rfl, hB, hb⟩ := hrel
    have HG := Lib.hid hg; clear hg
    have hkb := Lib.hid (Nat.le_trans (codeLs_take l k) HBD.out)
    by_cases hlt : k < n
    · obtain ⟨x, hx⟩ : ∃ s, l[k]? = some s := ⟨_, List.getElem?_eq_getElem (by rw [HN.out]; exact hlt)⟩
      have hr := rightAll_get (validB_all HV.out) hx
      obtain ⟨PF, kF, kP, hent, hbs, m, hop, hm5⟩ := fields_put hr ⟨Int.natCast_nonneg _, by omega, by rw [HN.out]; omega⟩
      have hstep := Lib.hid (codeLs_succ l k hx)
      have hci : Hid (ciL x = (⟨#[49, 49]⟩ ++ TS (.num m)).data.toList ++ (bodyB x).data.toList) := Lib.hid (by unfold ciL; rw [hop]; rfl)
      obtain ⟨g, off, rfl, hg, c0, c1, c2, c3, c4⟩ := (HL.out.below hb.out).get hx
      obtain ⟨y, hy⟩ : ∃ y, bodyB x = y := ⟨_, rfl⟩
      obtain ⟨op, xa, xb, xc, xt⟩ := x
      simp only at hop kF kP c0 c1 c2 c3 c4
      subst hop
      rw [hy] at kP hbs hci
      have HK := Lib.hid hlt
      have hi0 : (0 : Int) ≤ (k : Int) := Int.natCast_nonneg _
      have hi1 : (k : Int) < (n : Int) := by omega
      have KF := Lib.hid kF
      have KP := Lib.hid kP
      have HYS := Lib.hid hbs
      have Kn := Lib.hid (fun w => cnum_any m (by omega) w)
      have hzm : (TS (.num m)).size ≤ 11 := by rw [num_size]; omega
      obtain ⟨nm, hnm⟩ : ∃ z, TS (.num m) = z := ⟨_, rfl⟩
      rw [hnm] at Kn hci hzm
      clear hx hr kF kP hbs hy hlt hnm hm5
      go_wp2_with fail
      obtain ⟨w3, hW⟩ : ∃ B, wr.alloc (.cells #[.int .i64 m, .int .i64 xa, .int .i64 xb, .int .i64 xc, .string xt] 75) = B := ⟨_, rfl⟩
      have hq3 : Below wr.heap.size wr w3 := by rw [← hW]; exact (Below.refl _ _).alloc (Nat.le_refl _) _
      have hx3 : w3.heap[wr.heap.size]? = some (.cells #[.int .i64 m, .int .i64 xa, .int .i64 xb, .int .i64 xc, .string xt] 75 (0, 0)) := by rw [← hW]; exact heap_alloc_new _ _
      rw [hW]
      clear hW c0 c1 c2 c3 c4
      have hbx : wr.heap.size ≠ b := by have := isF_lt hB.out; omega
      obtain ⟨bx, hbxe⟩ : ∃ z, wr.heap.size = z := ⟨_, rfl⟩
      have hB := Lib.hid (isF_below hB.out hq3)
      have hbA := Lib.hid (hb.out.trans (hq3.mono hb.out.size))
      rw [hbxe] at hx3 hbx ⊢
      have hx3 := Lib.hid hx3
      have hbx := Lib.hid hbx
      clear hq3 hbxe hb
      refine (Kn.out _).mono ?_
      rintro e w4 ⟨rfl, hq⟩
      have hB := Lib.hid (isF_below hB.out hq)
      have hbA := Lib.hid (hbA.out.trans (hq.mono hbA.out.size))
      have hx4 := Lib.hid ((hq.block bx (Array.getElem?_eq_some_iff.1 hx3.out).1).trans hx3.out)
      clear hq hx3
      go_wp2_with fail
      have hl1 : (Lib.byteCells (codeLs (l.take k))).length + (⟨#[49, 49]⟩ ++ nm : ByteArray).size ≤ 140737488355328 := by
        rw [Lib.byteCells_length, ByteArray.size_append]
        have h1 : (⟨#[49, 49]⟩ : ByteArray).size = 2 := rfl
        have := hkb.out
        omega
      have kw := wstr_k b (Lib.byteCells (codeLs (l.take k))) (⟨#[49, 49]⟩ ++ nm) w4 hB.out hl1
      clear hl1
      refine kw.mono ?_
      clear kw
      rintro e w5 ⟨rfl, hB5, hq5, hk5⟩
      have hsz1 : Hid ((Lib.byteCells (codeLs (l.take k)) ++ Lib.strCells (⟨#[49, 49]⟩ ++ nm)).length ≤ 4000020 * 4000 + 13) := Lib.hid (by rw [List.length_append, Lib.byteCells_length, Lib.strCells_length, ByteArray.size_append]; have h1 : (⟨#[49, 49]⟩ : ByteArray).size = 2 := rfl; have := hkb.out; omega)
      have hx5 : w5.heap[bx]? = _ := hk5 bx _ hx4.out (by simpa using hbx.out) (by intro c fz e; cases e)
      have hB := Lib.hid hB5
      have hbA := Lib.hid (hbA.out.trans (hq5.mono hsz2.out))
      have cc := (block_cells hx5).1
      have KK := Lib.hid (fun (w' : World) (hb : Below w5.heap.size w5 w') => (show w'.cell? ⟨bx, 0, none⟩ = some (.int .i64 m) ∧ w'.cell? ⟨bx, 1, none⟩ = some (.int .i64 xa) ∧ w'.cell? ⟨bx, 2, none⟩ = some (.int .i64 xb) ∧ w'.cell? ⟨bx, 3, none⟩ = some (.int .i64 xc) ∧ w'.cell? ⟨bx, 4, none⟩ = some (.string xt) from
        have hl := (Array.getElem?_eq_some_iff.1 hx5).1
        ⟨(hb.cell (p := ⟨bx, 0, none⟩) hl).trans (cc 0), (hb.cell (p := ⟨bx, 1, none⟩) hl).trans (cc 1), (hb.cell (p := ⟨bx, 2, none⟩) hl).trans (cc 2), (hb.cell (p := ⟨bx, 3, none⟩) hl).trans (cc 3), (hb.cell (p := ⟨bx, 4, none⟩) hl).trans (cc 4)⟩))
      obtain ⟨d0, d1, d2, d3, d4⟩ := KK.out w5 (Below.refl _ _)
      have KF := Lib.hid (fun (w' : World) (hb : Below w5.heap.size w5 w') => (KF.out w').mono fun e w'' h => (show ∃ g, e = .returned (.agg #[.func (.func PF) #[] #[], g]) ∧ Below w5.heap.size w5 w'' from by obtain ⟨g, h1, h2⟩ := h; exact ⟨g, h1, hb.trans (h2.mono hb.size)⟩))
      have KP := Lib.hid (fun (w' : World) (hb : Below w5.heap.size w5 w') => (KP.out w').mono fun e w'' h => (show e = .returned (.string y) ∧ Below w5.heap.size w5 w'' from ⟨h.1, hb.trans (h.2.mono hb.size)⟩))
      have KW := Lib.hid (fun (w' : World) (hb : Below w5.heap.size w5 w') => (wstr_k b _ y w' (isF_below hB.out hb) (by have := hsz1.out; have := HYS.out; omega)).mono fun e w'' h => (show e = .returned (.tuple #[.int .i64 y.size, .nilIface]) ∧ Hid (Lib.IsBuilderF 114 5 b b ((Lib.byteCells (codeLs (l.take k)) ++ Lib.strCells (⟨#[49, 49]⟩ ++ nm)) ++ Lib.strCells y) w'') ∧ Hid (Below w.heap.size w w'') from ⟨h.1, Lib.hid h.2.1, Lib.hid ((hbA.out.trans (hb.mono hbA.out.size)).trans (h.2.2.1.mono hsz2.out))⟩))
      clear hB5 hq5 hk5 hx5 cc hx4
      have hfld := fun g w => field0 (.func (.func PF) #[] #[]) g w
      go_wp2
      go_region_law ((first
        | (go_simp; (with_reducible refine (KF.out _ (by first | exact Below.refl _ _ | exact (Below.refl _ _).drew)).mono ?_); rintro e v1 ⟨g1, rfl, hb1⟩; obtain ⟨e0, e1, e2, e3, e4⟩ := KK.out _ hb1)
        | (go_simp; (with_reducible refine (KP.out _ (by first | exact hb1 | exact hb1.drew)).mono ?_); rintro e v2 ⟨rfl, hb2⟩)
        | (go_simp; (with_reducible refine (KW.out _ (by first | exact hb2 | exact hb2.drew)).mono ?_); rintro e v3 ⟨rfl, hB3, hb3⟩)))
      all_goals (
      have hnew : Hid (Lib.IsBuilderF 114 5 b b (Lib.byteCells (codeLs (l.take (k + 1)))) v3) := Lib.hid (by
        rw [hstep.out, hci.out]
        have h3 := hB3.out
        simpa [Lib.byteCells, Lib.strCells] using h3)
      clear hB3 hb1 hb2 d0 d1 d2 d3 d4 e0 e1 e2 e3 e4
      go_wp2
      go_roundg (n - (k + 1))
      case measure => rw [HG.out]; have := HK.out; omega
      case rel => exact ⟨k + 1, HK.out, rfl, by go_num, hnew, hb3⟩)
    · have hkn : k = n := by omega
      subst hkn
      rw [List.take_of_length_le (by rw [HN.out]; omega)] at hB
      go_wp2_with fail
      refine (wbyte_k b _ 48 _ hB.out (by rw [Lib.byteCells_length]; have := HBD.out; omega)).mono ?_
      rintro e w3 ⟨rfl, hB3, hq3, _⟩
      have hB3' := Lib.hid (show Lib.IsBuilderF 114 5 b b (Lib.byteCells (codeLs l ++ [48])) w3 from by simpa [Lib.byteCells] using hB3)
      have hb3 := Lib.hid (hb.out.trans (hq3.mono hsz2.out))
      have kl := Lib.hid (Any.Builder_Len_f Try.lays170 b b _ w3 hB3'.out)
      have hlen : Hid ((Lib.byteCells (codeLs l ++ [48])).length = (codeLs l).length + 1) := Lib.hid (by rw [Lib.byteCells_length]; simp)
      rw [hlen.out] at kl
      obtain ⟨N, hN⟩ : ∃ N, (codeLs l).length + 1 = N := ⟨_, rfl⟩
      rw [hN] at kl HR
      clear hB3 hq3 hN hlen
      by_cases hbig : (2000000 : Int) < (N : Int)
      · have hRe := Lib.hid (show R = .tuple #[.string ⟨#[]⟩, .int .i64 3] by rw [← HR.out, if_pos (by omega)])
        go_wp2_with fail
        refine kl.out.mono ?_
        rintro e w4 ⟨rfl, rfl⟩
        go_wp2
        refine bodyPost_ret (v := .tuple #[.string ⟨#[]⟩, .int .i64 3]) (by simp [results, Try.results104, go_sem]) rfl ?_
        exact ⟨by rw [hRe.out], hb3.out⟩
      · have hRe := Lib.hid (show R = .tuple #[.string (codeOf l), .int .i64 0] by rw [← HR.out, if_neg (by omega)])
        have ks := Lib.hid (Any.Builder_String_any_f Try.lays169 Try.Builder_Extra_169 b b _ w3 hB3'.out (Nat.le_of_lt (isF_lt hB3'.out)))
        go_wp2_with fail
        refine kl.out.mono ?_
        rintro e w4 ⟨rfl, rfl⟩
        go_wp2_with fail
        refine ks.out.mono ?_
        rintro e w5 ⟨rfl, _, hq5⟩
        go_wp2
        refine bodyPost_ret (v := .tuple #[.string (codeOf l), .int .i64 0]) (by simp [results, Try.results104, go_sem, codeOf]) rfl ?_
        exact ⟨by rw [hRe.out], hb3.out.trans (hq5.mono hsz2.out)⟩

end Go.Proofs.Ytdjbcmfjlfkcjaa

namespace Go.Proofs.Ytdjbcmfjlfkcjaa
open Go.RowKit

def clearL (f m : Nat) : List Ins := (List.range m).map fun j => setI (f + j) ⟨#[48]⟩
theorem clearL_succ (f m : Nat) : clearL f (m + 1) = clearL f m ++ [setI (f + m) ⟨#[48]⟩] := by unfold clearL; rw [List.range_succ, List.map_append]; rfl
theorem clearL_length (f m : Nat) : (clearL f m).length = m := by simp [clearL]
set_option maxHeartbeats 4000000 in
theorem kclear_any (f m : Nat) (hf : f ≤ 1000) (hm : m ≤ 1000) (w : World) (ti : Int) (hti : ti = (f : Int) + m - 1) :
    Calls Try.prog 109 #[.int .i64 f, .int .i64 ti] w fun e w' => ∃ a c, e = .returned (.slice a m c) ∧ OwnI w' w.heap.size (.slice a m c) (clearL f m) ∧ Below w.heap.size w w' := by
  have HT := Lib.hid hti
  clear hti
  go_enter Try.func109, Try.ntmps109
  go_wp2
  go_loopg [5, 6] m (fun gg o i wr => ∃ k : Nat, k ≤ m ∧ gg = m - k ∧ i = .int .i64 ((f : Int) + k) ∧ Hid (OwnI wr w.heap.size o (clearL f k) ∧ Below w.heap.size w wr))
  case atStart => exact ⟨0, by omega, rfl, by simp, OwnI.nil _ _, Below.refl _ _⟩
  case round =>
    obtain ⟨k, hk, hg, rfl, hP⟩ := hrel
    have HG := Lib.hid hg; clear hg
    by_cases hlt : k < m
    · have hi : (f : Int) + (k : Int) ≤ ti := by rw [HT.out]; omega
      have hown := hP.out.1.own
      rw [clearL_length] at hown
      have hb := hP.out.2
      have hsz := hb.size
      go_wp2_with (at_builtin; refine app_new el_ins rfl _ _ rfl rfl hown (inscells [setI (f + k) ⟨#[48]⟩]) 1 rfl rfl ?c1 ?c2 ?c3 hsz hb (Nat.le_refl _) ?_)
      case c1 => exact inscells_one _
      case c2 => omega
      case c3 => unfold maxLen; omega
      intro v' w' hown' hb' hgr
      have hnew : Hid (OwnI w' w.heap.size v' (clearL f (k + 1)) ∧ Below w.heap.size w w') := Lib.hid ⟨by rw [clearL_succ]; exact OwnI.snoc (by rw [clearL_length]; exact hown') hP.out.1.wf (setI_wf _ _ (by omega) (by decide)), hb'⟩
      clear hown hown' hb hb' hgr hP
      go_wp2
      go_roundg (m - (k + 1))
      case measure => rw [HG.out]; omega
      case rel => exact ⟨k + 1, by omega, rfl, by first | rfl | (congr 1; omega), hnew⟩
    · have hkm : k = m := by omega
      subst hkm
      have hi : ¬ (f : Int) + (k : Int) ≤ ti := by rw [HT.out]; omega
      have hsl := hP.out.1.slice
      rw [clearL_length] at hsl
      obtain ⟨a2, c2, rfl⟩ := hsl
      have hP1 := Lib.hid hP.out.1
      have hP2 := Lib.hid hP.out.2
      go_wp2
      refine bodyPost_ret (v := .slice a2 k c2) (by simp [results, Try.results109, go_sem]) rfl ?_
      exact ⟨_, _, rfl, hP1.out, hP2.out⟩
def beforeL : List Ins := [⟨3, 2, 0, 0, ⟨#[]⟩⟩, ⟨4, 3, 0, 0, ⟨#[]⟩⟩, setI 4 ⟨#[49, 48, 48]⟩, consI 4 4 2, consI 4 1 4, setI 5 ⟨#[49, 48, 49, 49, 48, 48, 48]⟩, consI 5 5 2, setI 6 ⟨#[49, 49, 48, 49, 48, 48, 49, 48, 49, 49, 48, 48, 48]⟩, consI 5 6 5, consI 5 4 5, consI 0 5 3]
def behindL : List Ins := beforeL ++ clearL 2 5
theorem beforeL_wf : ∀ x ∈ beforeL, x.wf := by
  intro x hx
  simp only [beforeL, List.mem_cons, List.not_mem_nil, or_false] at hx
  rcases hx with rfl | rfl | rfl | rfl | rfl | rfl | rfl | rfl | rfl | rfl | rfl
  all_goals exact wf_lit _ _ _ _ _ (by unfold i64; decide) (by unfold i64; decide) (by unfold i64; decide) (by unfold i64; decide) (by decide)
theorem kclear_row (f m : Nat) (hf : f ≤ 1000) (hm : m ≤ 1000) (w : World) (ti : Int) (hti : ti = (f : Int) + m - 1) :
    Calls Try.prog 109 #[.int .i64 f, .int .i64 ti] w fun e w' => ∃ a c, e = .returned (.slice a m c) ∧ InsRow w' w'.heap.size (.slice a m c) (clearL f m) ∧ Below w.heap.size w w' :=
  (kclear_any f m hf hm w ti hti).mono fun e w' ⟨a, c, h1, h2, h3⟩ => ⟨a, c, h1, h2.row (by rw [clearL_length]; omega), h3⟩
theorem put_code : codeOf [consI 0 1 0] = ⟨#[49, 49, 49, 48, 49, 48, 48, 49, 48, 49, 49, 48, 48, 48, 48]⟩ := by decide +kernel
theorem clear_code : codeOf [setI 1 ⟨#[48]⟩] = ⟨#[49, 49, 48, 49, 49, 48, 48, 48, 48]⟩ := by decide +kernel

theorem code_at (v : Value) (l : List Ins) (s : ByteArray) (w : World) (hl : InsRow w w.heap.size v l) (hv : validB l = true) (hs : codeOf l = s) (hz : (codeLs l).length + 1 ≤ 2000000) :
    Calls Try.prog 104 #[v] w fun e w' => e = .returned (.tuple #[.string s, .int .i64 0]) ∧ Below w.heap.size w w' := by
  have h := code_ok v l w hl hv
  rw [if_neg (by omega), hs] at h
  exact h
set_option maxRecDepth 20000 in
set_option maxHeartbeats 4000000 in
theorem before_any (w : World) : Calls Try.prog 103 #[] w fun e w' => ∃ a c, e = .returned (.slice a 16 c) ∧ InsRow w' w'.heap.size (.slice a 16 c) behindL ∧ Below w.heap.size w w' := by
  have ch := Lib.hid (Below.refl w.heap.size w)
  go_enter Try.func103, Try.ntmps103
  go_wp2_with fail
  obtain ⟨w1, hW⟩ : ∃ B, w.alloc (.cells #[.int .i64 2, .int .i64 0, .int .i64 1, .int .i64 0, .string ⟨#[]⟩] 75) = B := ⟨_, rfl⟩
  rw [hW]
  have hq : Below w.heap.size w w1 := by rw [← hW]; exact (Below.refl _ _).alloc (Nat.le_refl _) _
  have h1 := Lib.hid (show InsRow w1 w1.heap.size (.slice (some ⟨w.heap.size, 0, none⟩) 1 1) [consI 0 1 0] by rw [← hW]; exact (OwnI.lit w [consI 0 1 0] (by simp; exact consI_wf _ _ _ (by omega) (by omega) (by omega)) (by simp)).row (by simp))
  clear hW
  have ch := Lib.hid (ch.out.trans (hq.mono ch.out.size))
  clear hq
  refine (code_at _ [consI 0 1 0] _ _ h1.out (by decide +kernel) put_code (by decide +kernel)).mono ?_
  rintro e w2 ⟨rfl, hq⟩
  have h1 := Lib.hid ((h1.out.below hq).mono hq.size)
  have ch := Lib.hid (ch.out.trans (hq.mono ch.out.size))
  clear hq
  clear h1
  go_wp2_with fail
  obtain ⟨w3, hW⟩ : ∃ B, w2.alloc (.cells #[.int .i64 0, .int .i64 1, .int .i64 0, .int .i64 0, .string ⟨#[48]⟩] 75) = B := ⟨_, rfl⟩
  rw [hW]
  have hq : Below w2.heap.size w2 w3 := by rw [← hW]; exact (Below.refl _ _).alloc (Nat.le_refl _) _
  have h2 := Lib.hid (show InsRow w3 w3.heap.size (.slice (some ⟨w2.heap.size, 0, none⟩) 1 1) [setI 1 ⟨#[48]⟩] by rw [← hW]; exact (OwnI.lit w2 [setI 1 ⟨#[48]⟩] (by simp; exact setI_wf _ _ (by omega) (by decide)) (by simp)).row (by simp))
  clear hW
  have ch := Lib.hid (ch.out.trans (hq.mono ch.out.size))
  clear hq
  refine (code_at _ [setI 1 ⟨#[48]⟩] _ _ h2.out (by decide +kernel) clear_code (by decide +kernel)).mono ?_
  rintro e w4 ⟨rfl, hq⟩
  have h2 := Lib.hid ((h2.out.below hq).mono hq.size)
  have ch := Lib.hid (ch.out.trans (hq.mono ch.out.size))
  clear hq
  clear h2
  go_wp2_with fail
  rw [show (⟨#[49, 49, 48, 49, 49, 48, 48, 48, 48]⟩ : ByteArray).extract 1 8 = ⟨#[49, 48, 49, 49, 48, 48, 48]⟩ by decide +kernel, show (⟨#[49, 49, 49, 48, 49, 48, 48, 49, 48, 49, 49, 48, 48, 48, 48]⟩ : ByteArray).extract 1 14 = ⟨#[49, 49, 48, 49, 48, 48, 49, 48, 49, 49, 48, 48, 48]⟩ by decide +kernel]
  have rl := Lib.hid (Below.refl w4.heap.size w4)
  obtain ⟨w5, hW⟩ : ∃ B, w4.alloc (.cells #[.int .i64 3, .int .i64 2, .int .i64 0, .int .i64 0, .string ⟨#[]⟩, .int .i64 4, .int .i64 3, .int .i64 0, .int .i64 0, .string ⟨#[]⟩, .int .i64 0, .int .i64 4, .int .i64 0, .int .i64 0, .string ⟨#[49, 48, 48]⟩, .int .i64 2, .int .i64 4, .int .i64 4, .int .i64 2, .string ⟨#[]⟩, .int .i64 2, .int .i64 4, .int .i64 1, .int .i64 4, .string ⟨#[]⟩, .int .i64 0, .int .i64 5, .int .i64 0, .int .i64 0, .string ⟨#[49, 48, 49, 49, 48, 48, 48]⟩, .int .i64 2, .int .i64 5, .int .i64 5, .int .i64 2, .string ⟨#[]⟩, .int .i64 0, .int .i64 6, .int .i64 0, .int .i64 0, .string ⟨#[49, 49, 48, 49, 48, 48, 49, 48, 49, 49, 48, 48, 48]⟩, .int .i64 2, .int .i64 5, .int .i64 6, .int .i64 5, .string ⟨#[]⟩, .int .i64 2, .int .i64 5, .int .i64 4, .int .i64 5, .string ⟨#[]⟩, .int .i64 2, .int .i64 0, .int .i64 5, .int .i64 3, .string ⟨#[]⟩] 75) = B := ⟨_, rfl⟩
  rw [hW]
  have hq : Below w4.heap.size w4 w5 := by rw [← hW]; exact (Below.refl _ _).alloc (Nat.le_refl _) _
  have ho := Lib.hid (show OwnI w5 w4.heap.size (.slice (some ⟨w4.heap.size, 0, none⟩) 11 11) beforeL by rw [← hW]; exact OwnI.lit w4 beforeL (by exact beforeL_wf) (by first | simp | decide))
  clear hW
  have rl := Lib.hid (rl.out.trans (hq.mono rl.out.size))
  clear hq
  have hch := Lib.hid ch.out
  refine (kclear_row 2 5 (by decide) (by decide) _ 6 (by decide)).mono ?_
  rintro e w6 ⟨ca, cc, rfl, hcl, hq⟩
  have ho := Lib.hid (ho.out.below hq)
  have rl := Lib.hid (rl.out.trans (hq.mono rl.out.size))
  clear hq
  have hcl := Lib.hid hcl
  have ho0 := ho.out
  have hb0 := rl.out
  have hs0 := hcl.out
  go_wp2_with (at_builtin; refine app_row rfl _ _ rfl (v := .slice (some ⟨w4.heap.size, 0, none⟩) 11 11) (vx := .slice ca 5 cc) rfl ho0 rfl hs0 ?c2 hb0 ?_)
  case c2 => simp [beforeL, clearL_length]
  clear ho0 hb0 hs0 ho
  intro a7 k7 s7 w7 hk7 ho hb
  have rl := hb
  clear hb
  clear hcl
  have ch := Lib.hid (ch.out.trans (rl.out.mono ch.out.size))
  go_wp2
  have hk16 : k7 = 16 := by have := hk7.out; simpa [beforeL, clearL_length] using this
  subst hk16
  refine bodyPost_ret (v := .slice a7 16 s7) (by simp [results, Try.results103, go_sem]) rfl ?_
  exact ⟨_, _, rfl, ho.out.row (by simp [beforeL, clearL_length]), ch.out⟩
end Go.Proofs.Ytdjbcmfjlfkcjaa

namespace Go.Proofs.Ytdjbcmfjlfkcjaa
open Go.RowKit

theorem flat_len_take (ls : List (List Ins)) (k : Nat) : ((ls.take k).flatten).length ≤ lenS ls := by rw [lenS_flatten]; exact lenS_take ls k
set_option maxHeartbeats 4000000 in
theorem join_any (v : Value) (ls : List (List Ins)) (w : World) (hl : ProgsRow w w.heap.size v ls) (hT : lenS ls ≤ 1000000000) :
    Calls Try.prog 102 #[v] w fun e w' => ∃ a c, e = .returned (.tuple #[.slice a (lenS ls) c, .bool (validB ls.flatten)]) ∧ InsRow w' w'.heap.size (.slice a (lenS ls) c) ls.flatten ∧ Below w.heap.size w w' := by
  obtain ⟨ao, cap, rfl⟩ := hl.len
  have hn5 := hl.1
  obtain ⟨n, hn'⟩ : ∃ n, ls.length = n := ⟨_, rfl⟩
  rw [hn'] at hl hn5 ⊢
  have HN := Lib.hid hn'; clear hn'
  have HL := Lib.hid hl; clear hl
  have HT := Lib.hid hT; clear hT
  obtain ⟨N, hN⟩ : ∃ N, lenS ls = N := ⟨_, rfl⟩
  obtain ⟨bv, hbv⟩ : ∃ b, validB ls.flatten = b := ⟨_, rfl⟩
  rw [hN, hbv]
  have HNN := Lib.hid hN
  have HBV := Lib.hid hbv
  clear hN hbv
  go_enter Try.func102, Try.ntmps102
  go_wp2
  go_loopg [4, 9] n (fun gg o i wr => ∃ k : Nat, k ≤ n ∧ gg = n - k ∧ i = .int .i64 k ∧ Hid (OwnI wr w.heap.size o (ls.take k).flatten ∧ Below w.heap.size w wr))
  case atStart => exact ⟨0, by omega, rfl, rfl, OwnI.nil _ _, Below.refl _ _⟩
  case round =>
    obtain ⟨k, hk, hg, rfl, hP⟩ := hrel
    have HG := Lib.hid hg; clear hg
    by_cases hlt : k < n
    · obtain ⟨l, hx⟩ : ∃ s, ls[k]? = some s := ⟨_, List.getElem?_eq_getElem (by rw [HN.out]; exact hlt)⟩
      have hl2 := HL.out.step hP.out.2
      obtain ⟨g, off, u, rfl, hg, c0, hu⟩ := hl2.get hx
      have hi0 : (0 : Int) ≤ (k : Int) := Int.natCast_nonneg _
      have hi1 : (k : Int) < (n : Int) := by omega
      have hb1 := flat_len_take ls (k + 1)
      rw [take_snoc' _ _ _ hx, List.flatten_append, List.length_append] at hb1
      simp only [List.flatten_cons, List.flatten_nil, List.append_nil] at hb1
      have HB := Lib.hid (Nat.le_trans hb1 HT.out)
      have HX := Lib.hid hx
      clear hx hl2 hb1
      have ho0 := hP.out.1
      have hb0 := hP.out.2
      go_wp2_with (at_builtin; refine app_row rfl _ _ rfl (vx := u) rfl ho0 rfl hu ?c2 hb0 ?_)
      case c2 => exact HB.out
      intro a1 k1 s1 w1 hk1 ho hbb
      have hnew : Hid (OwnI w1 w.heap.size (.slice a1 k1 s1) (ls.take (k + 1)).flatten ∧ Below w.heap.size w w1) := Lib.hid ⟨by rw [take_snoc' _ _ _ HX.out, List.flatten_append]; simpa using ho.out, hbb.out⟩
      clear ho0 hb0 hu c0 ho hbb hP hk1
      go_wp2
      go_roundg (n - (k + 1))
      case measure => rw [HG.out]; omega
      case rel => exact ⟨k + 1, by omega, rfl, by go_num, hnew⟩
    · have hkn : k = n := by omega
      subst hkn
      rw [List.take_of_length_le (by rw [HN.out]; omega)] at hP
      have hsl := hP.out.1.slice
      rw [lenS_flatten, HNN.out] at hsl
      obtain ⟨a2, c2, rfl⟩ := hsl
      have hrow := Lib.hid (hP.out.1.row (by rw [lenS_flatten]; have := HT.out; omega))
      have hb0 := Lib.hid hP.out.2
      have kv := codeValidP_at _ ls.flatten _ hrow.out _ HBV.out
      clear hP
      go_wp2_with fail
      refine kv.mono ?_
      rintro e w2 ⟨rfl, hb2⟩
      have hrow := Lib.hid ((hrow.out.below hb2).mono hb2.size)
      have hb0 := Lib.hid (hb0.out.trans (hb2.mono hb0.out.size))
      clear hb2 kv
      go_wp2
      refine bodyPost_ret (v := .tuple #[.slice a2 N c2, .bool bv]) (by simp [results, Try.results102, go_sem]) rfl ?_
      exact ⟨_, _, rfl, hrow.out, hb0.out⟩

/-- The code as a tree. -/
def bodyT (x : Ins) : Tr :=
  if x.op = 0 then .pair (.num x.a.toNat) (toTr x.tree)
  else if x.op = 2 then .pair (.num x.a.toNat) (.pair (.num x.b.toNat) (.num x.c.toNat))
  else if x.op = 5 then (if x.b < 0 then .pair (.num x.a.toNat) (.pair (.pair .nil .nil) (.num (-x.b).toNat)) else .pair (.num x.a.toNat) (.pair .nil (.num x.b.toNat)))
  else .pair (.num x.a.toNat) (.num x.b.toNat)
def insT (x : Ins) : Tr := .pair (.num x.op.toNat) (bodyT x)
def codeT : List Ins → Tr
  | [] => .nil
  | x :: l => .pair (insT x) (codeT l)
theorem bodyT_enc {x : Ins} {i n : Int} (h : rightB x i n = true) : (bodyT x).enc = (bodyB x).data.toList := by
  have hl : ∀ t : Tr, t.enc = (TS t).data.toList := fun t => (TS_list t).symm
  unfold bodyT bodyB
  by_cases h0 : x.op = 0
  · rw [if_pos h0, if_pos h0]
    have ht : isTree x.tree = true := by
      unfold rightB at h
      simp only [Bool.and_eq_true] at h
      have h3 := h.2
      rw [if_pos h0, Bool.and_eq_true] at h3
      exact h3.2
    have h4 : (toTr x.tree).enc = x.tree.data.toList := by rw [hl, TS_toTr ht]
    simp [Tr.enc, h4, hl]
  · rw [if_neg h0, if_neg h0]
    by_cases h2 : x.op = 2
    · rw [if_pos h2, if_pos h2]; simp [Tr.enc, hl]
    · rw [if_neg h2, if_neg h2]
      by_cases h5 : x.op = 5
      · rw [if_pos h5, if_pos h5]
        by_cases hb : x.b < 0
        · rw [if_pos hb, if_pos hb]; simp [Tr.enc, hl]
        · rw [if_neg hb, if_neg hb]; simp [Tr.enc, hl]
      · rw [if_neg h5, if_neg h5]; simp [Tr.enc, hl]
theorem codeT_enc : ∀ (l : List Ins), (∀ x ∈ l, ∃ i n, rightB x i n = true) → (codeT l).enc = codeLs l ++ [48]
  | [], _ => rfl
  | x :: l, h => by
    obtain ⟨i, n, hr⟩ := h x (List.mem_cons_self)
    have h1 := codeT_enc l (fun y hy => h y (List.mem_cons_of_mem _ hy))
    have hl : ∀ t : Tr, t.enc = (TS t).data.toList := fun t => (TS_list t).symm
    show 49 :: ((49 :: ((Tr.num x.op.toNat).enc ++ (bodyT x).enc)) ++ (codeT l).enc) = _
    rw [h1, bodyT_enc hr]
    have h3 : codeLs (x :: l) = ciL x ++ codeLs l := by simp [codeLs]
    rw [h3]
    unfold ciL
    simp [hl]
theorem valid_rights {l : List Ins} (hv : rightAll l = true) : ∀ x ∈ l, ∃ i n, rightB x i n = true := by
  intro x hx
  obtain ⟨k, hk, rfl⟩ := List.getElem_of_mem hx
  exact ⟨_, _, rightAll_get hv (List.getElem?_eq_getElem hk)⟩
theorem codeOf_TS {l : List Ins} (hv : rightAll l = true) : codeOf l = TS (codeT l) := by
  unfold codeOf TS
  rw [codeT_enc l (valid_rights hv)]
theorem codeOf_size (l : List Ins) : (codeOf l).size = (codeLs l).length + 1 := by unfold codeOf; simp [ByteArray.size]
theorem codeOf_tree {l : List Ins} (hv : rightAll l = true) (hs : (codeLs l).length + 1 ≤ 2000000) : isTree (codeOf l) = true := by
  rw [codeOf_TS hv]
  refine isTree_TS _ ?_
  rw [← TS_size, ← codeOf_TS hv, codeOf_size]; exact hs

end Go.Proofs.Ytdjbcmfjlfkcjaa

namespace Go.Proofs.Ytdjbcmfjlfkcjaa
open Go.RowKit

/-- The instruction of an operation, a register and the rest. -/
def decB (n q : Nat) (r : Tr) : Option Ins :=
  match n with
  | 0 => some ⟨0, q, 0, 0, TS r⟩
  | 1 => if r.isNum then some ⟨1, q, r.pairs, 0, ⟨#[]⟩⟩ else none
  | 2 => match r with
    | .pair b c => if b.isNum && c.isNum then some ⟨2, q, b.pairs, c.pairs, ⟨#[]⟩⟩ else none
    | .nil => none
  | 3 => if r.isNum then some ⟨3, q, r.pairs, 0, ⟨#[]⟩⟩ else none
  | 4 => if r.isNum then some ⟨4, q, r.pairs, 0, ⟨#[]⟩⟩ else none
  | 5 => match r with
    | .pair .nil b => if b.isNum then some ⟨5, q, b.pairs, 0, ⟨#[]⟩⟩ else none
    | .pair (.pair .nil .nil) b => if b.isNum && decide (0 < b.pairs) then some ⟨5, q, -(b.pairs : Int), 0, ⟨#[]⟩⟩ else none
    | _ => none
  | _ => none
/-- The instruction that a tree is the code of. -/
def decI : Tr → Option Ins
  | .pair o (.pair a r) => if o.isNum && a.isNum then decB o.pairs a.pairs r else none
  | _ => none
theorem decI_eq (o a r : Tr) : decI (.pair o (.pair a r)) = if o.isNum && a.isNum then decB o.pairs a.pairs r else none := rfl
/-- The instructions of a list of codes. -/
def decL : Tr → Option (List Ins)
  | .nil => some []
  | .pair u t => match decI u, decL t with
    | some x, some l => some (x :: l)
    | _, _ => none
/-- The valid program with a code. -/
def decT (t : Tr) : Option (List Ins) := match decL t with
  | some l => if validB l then some l else none
  | none => none
theorem isNum_eq {t : Tr} (h : t.isNum = true) : t = .num t.pairs := of_decide_eq_true h
theorem decI_ins {u : Tr} {x : Ins} (hu : u.size ≤ 2000000) (h : decI u = some x) : insT x = u := by
  match u, h with
  | .pair o (.pair a r), h =>
    rw [decI_eq] at h
    by_cases hoa : (o.isNum && a.isNum) = true
    · rw [if_pos hoa] at h
      simp only [Bool.and_eq_true] at hoa
      have ho := isNum_eq hoa.1
      have ha := isNum_eq hoa.2
      have hr : r.size ≤ 2000000 := by simp only [Tr.size] at hu; omega
      generalize hop : o.pairs = p at h ho
      generalize hap : a.pairs = q at h ha
      subst ho ha
      unfold insT bodyT
      unfold decB at h
      split at h
      · injection h with h
        subst h
        simp [toTr_TS r hr]
      · split at h
        · next hn =>
          have hrn := isNum_eq hn
          injection h with h
          subst h
          simp
          exact hrn.symm
        · cases h
      · split at h
        · split at h
          · next b c hn =>
            simp only [Bool.and_eq_true] at hn
            have h1 := isNum_eq hn.1
            have h2 := isNum_eq hn.2
            injection h with h
            subst h
            simp
            exact ⟨h1.symm, h2.symm⟩
          · cases h
        · cases h
      · split at h
        · next hn =>
          have hrn := isNum_eq hn
          injection h with h
          subst h
          simp
          exact hrn.symm
        · cases h
      · split at h
        · next hn =>
          have hrn := isNum_eq hn
          injection h with h
          subst h
          simp
          exact hrn.symm
        · cases h
      · split at h
        · split at h
          · next b hn =>
            have h1 := isNum_eq hn
            injection h with h
            subst h
            have h0 : ¬ ((b.pairs : Int) < 0) := by omega
            simp [h0]
            exact h1.symm
          · cases h
        · split at h
          · next b hn =>
            simp only [Bool.and_eq_true, decide_eq_true_eq] at hn
            have h1 := isNum_eq hn.1
            have h2 := hn.2
            injection h with h
            subst h
            have h0 : (-(b.pairs : Int) < 0) := by omega
            simp [h2]
            exact h1.symm
          · cases h
        · cases h
      · cases h
    · rw [if_neg hoa] at h
      cases h
theorem decL_code : ∀ (t : Tr) {l : List Ins}, t.size ≤ 2000000 → decL t = some l → codeT l = t
  | .nil, l, _, h => by
    injection h with h
    subst h
    rfl
  | .pair u t, l, hs, h => by
    simp only [Tr.size] at hs
    rw [decL] at h
    split at h
    · next x m h1 h2 =>
      injection h with h
      subst h
      rw [codeT, decI_ins (by omega) h1, decL_code t (by omega) h2]
    · cases h
theorem isNum_num (n : Nat) : (Tr.num n).isNum = true := (Tr.isNum_num n).1
theorem pairs_num (n : Nat) : (Tr.num n).pairs = n := (Tr.isNum_num n).2
theorem tree_none {s : ByteArray} (h : s.toList.isEmpty = true) : s = ⟨#[]⟩ := by
  apply ba_ext
  rw [ByteArray.toList_eq] at h
  simpa using h
theorem decI_of {x : Ins} {i n : Int} (h : rightB x i n = true) : decI (insT x) = some x := by
  obtain ⟨a, ha, _, hbc⟩ := right_nats h
  have hop := right_op h
  unfold rightB at h
  simp only [Bool.and_eq_true, Bool.or_eq_true, beq_iff_eq] at h
  obtain ⟨⟨⟨_, h2⟩, h3⟩, h4⟩ := h
  obtain ⟨op, xa, b, c, t⟩ := x
  simp only at ha hop hbc h2 h3 h4
  subst ha
  rcases hop with rfl | rfl | rfl | rfl | rfl | rfl
  · simp only [if_true, Bool.and_eq_true, beq_iff_eq] at h4
    obtain ⟨rfl, ht⟩ := h4
    have hc : c = 0 := by rcases h3 with h3 | h3; · cases h3
                          · exact h3
    subst hc
    simp [insT, bodyT, decI_eq, decB, isNum_num, pairs_num, TS_toTr ht]
  · obtain ⟨b', c', rfl, rfl, _, _⟩ := hbc (by decide)
    have hc : (c' : Int) = 0 := by rcases h3 with h3 | h3; · cases h3
                                   · exact h3
    have ht : t = ⟨#[]⟩ := by rcases h2 with h2 | h2; · cases h2
                              · exact tree_none h2
    subst ht
    simp [insT, bodyT, decI_eq, decB, isNum_num, pairs_num, hc]
  · obtain ⟨b', c', rfl, rfl, _, _⟩ := hbc (by decide)
    have ht : t = ⟨#[]⟩ := by rcases h2 with h2 | h2; · cases h2
                              · exact tree_none h2
    subst ht
    simp [insT, bodyT, decI_eq, decB, isNum_num, pairs_num]
  · obtain ⟨b', c', rfl, rfl, _, _⟩ := hbc (by decide)
    have hc : (c' : Int) = 0 := by rcases h3 with h3 | h3; · cases h3
                                   · exact h3
    have ht : t = ⟨#[]⟩ := by rcases h2 with h2 | h2; · cases h2
                              · exact tree_none h2
    subst ht
    simp [insT, bodyT, decI_eq, decB, isNum_num, pairs_num, hc]
  · obtain ⟨b', c', rfl, rfl, _, _⟩ := hbc (by decide)
    have hc : (c' : Int) = 0 := by rcases h3 with h3 | h3; · cases h3
                                   · exact h3
    have ht : t = ⟨#[]⟩ := by rcases h2 with h2 | h2; · cases h2
                              · exact tree_none h2
    subst ht
    simp [insT, bodyT, decI_eq, decB, isNum_num, pairs_num, hc]
  · have hc : c = 0 := by rcases h3 with h3 | h3; · cases h3
                          · exact h3
    have ht : t = ⟨#[]⟩ := by rcases h2 with h2 | h2; · cases h2
                              · exact tree_none h2
    subst hc ht
    by_cases hb : b < 0
    · obtain ⟨m, rfl⟩ : ∃ m : Nat, b = -(m : Int) := ⟨b.natAbs, by omega⟩
      have hm : 0 < m := by omega
      simp [insT, bodyT, decI_eq, decB, isNum_num, pairs_num, hm]
    · obtain ⟨m, rfl⟩ : ∃ m : Nat, b = (m : Int) := ⟨b.natAbs, by omega⟩
      simp [insT, bodyT, decI_eq, decB, isNum_num, pairs_num, hb]
theorem decL_of : ∀ {l : List Ins}, (∀ x ∈ l, ∃ i n, rightB x i n = true) → decL (codeT l) = some l
  | [], _ => rfl
  | x :: l, h => by
    obtain ⟨i, n, hr⟩ := h x List.mem_cons_self
    rw [codeT, decL, decI_of hr, decL_of fun y hy => h y (List.mem_cons_of_mem _ hy)]
theorem decT_code {t : Tr} {l : List Ins} (ht : t.size ≤ 2000000) (h : decT t = some l) : codeT l = t ∧ validB l = true := by
  unfold decT at h
  split at h
  · next m hm =>
    split at h
    · next hv =>
      injection h with h
      subst h
      exact ⟨decL_code t ht hm, hv⟩
    · cases h
  · cases h
theorem decT_of {l : List Ins} (h : validB l = true) : decT (codeT l) = some l := by
  unfold decT
  rw [decL_of (valid_rights (validB_all h))]
  exact if_pos h
end Go.Proofs.Ytdjbcmfjlfkcjaa

namespace Go.Proofs.Ytdjbcmfjlfkcjaa
open Go.RowKit

/-- The tree that follows. -/
def nxT (t : Tr) : Tr := match pf (tnx t) with
  | some (u :: _) => u
  | _ => .nil
theorem nxT_spec (t : Tr) : tnx t = (nxT t).enc ∧ trk (nxT t) = trk t + 1 := by
  obtain ⟨u, h1, h2⟩ := tnx_tree t
  have h3 : nxT t = u := by unfold nxT; rw [h1, pf_one]
  rw [h3]
  exact ⟨h1, h2⟩
/-- The tree with a rank. -/
def seqT : Nat → Tr | 0 => .nil | r + 1 => nxT (seqT r)
theorem trk_nil : trk .nil = 0 := by simp [trk, Tr.pairs, wsum, Tr.enc, wrk]
theorem trk_seq : ∀ r : Nat, trk (seqT r) = r
  | 0 => trk_nil
  | r + 1 => by rw [seqT, (nxT_spec _).2, trk_seq r]
theorem seq_trk (t : Tr) : seqT (trk t) = t := trk_inj (trk_seq _)
theorem seq_pairs {r m : Nat} : (seqT r).pairs ≤ m ↔ r < wsum (m + 1) := by
  have h := trk_lt (seqT r)
  rw [trk_seq] at h
  constructor
  · intro hp
    have := wsum_mono (show (seqT r).pairs + 1 ≤ m + 1 by omega)
    omega
  · intro hr
    rcases Nat.lt_or_ge m (seqT r).pairs with h1 | h1
    · have := wsum_mono (show m + 1 ≤ (seqT r).pairs by omega)
      omega
    · exact h1
/-- The programs among the first trees. -/
def progsT : Nat → List (List Ins)
  | 0 => []
  | r + 1 => progsT r ++ (decT (seqT r)).toList
theorem progs_len (r : Nat) : (progsT r).length ≤ r := by
  induction r with
  | zero => exact Nat.le_refl _
  | succ r ih =>
    rw [progsT, List.length_append]
    have : (decT (seqT r)).toList.length ≤ 1 := by cases decT (seqT r) <;> simp
    omega
theorem progs_none {r : Nat} (h : decT (seqT r) = none) : progsT (r + 1) = progsT r := by rw [progsT, h]; simp
theorem progs_some {r : Nat} {l : List Ins} (h : decT (seqT r) = some l) : progsT (r + 1) = progsT r ++ [l] := by rw [progsT, h]; rfl
theorem progs_mem {r : Nat} {l : List Ins} (h : l ∈ progsT r) : ∃ i, i < r ∧ decT (seqT i) = some l := by
  induction r with
  | zero => simp [progsT] at h
  | succ r ih =>
    rw [progsT, List.mem_append] at h
    rcases h with h | h
    · obtain ⟨i, hi, h1⟩ := ih h
      exact ⟨i, by omega, h1⟩
    · exact ⟨r, by omega, by simpa using h⟩
theorem progs_of {r i : Nat} {l : List Ins} (hi : i < r) (h : decT (seqT i) = some l) : l ∈ progsT r := by
  induction r with
  | zero => omega
  | succ r ih =>
    rw [progsT, List.mem_append]
    rcases Nat.lt_or_ge i r with h1 | h1
    · exact .inl (ih h1)
    · obtain rfl : i = r := by omega
      exact .inr (by simpa using h)
theorem seq_size {r m : Nat} (h : r < wsum (m + 1)) : (seqT r).size ≤ 2 * m + 1 := by
  have := seq_pairs.2 h
  rw [Tr.size_pairs]
  omega
/-- A program of the list: valid, its code among the first trees. -/
theorem progs_code {r m : Nat} (hr : r ≤ wsum (m + 1)) (hm : m ≤ 1000) {l : List Ins} (h : l ∈ progsT r) : validB l = true ∧ trk (codeT l) < r := by
  obtain ⟨i, hi, h1⟩ := progs_mem h
  have hs := seq_size (r := i) (m := m) (by omega)
  obtain ⟨h2, h3⟩ := decT_code (by omega) h1
  refine ⟨h3, ?_⟩
  rw [h2, trk_seq]
  exact hi
/-- The codes are in order. -/
theorem progs_sorted {m : Nat} (hm : m ≤ 1000) : ∀ {r : Nat}, r ≤ wsum (m + 1) → (progsT r).Pairwise fun p q => trk (codeT p) < trk (codeT q)
  | 0, _ => List.Pairwise.nil
  | r + 1, hr => by
    rw [progsT, List.pairwise_append]
    refine ⟨progs_sorted hm (by omega), ?_, fun p hp q hq => ?_⟩
    · cases decT (seqT r) <;> simp
    · have h1 := (progs_code (by omega) hm hp).2
      have h2 : decT (seqT r) = some q := by simpa using hq
      have h3 := (decT_code (by have := seq_size (r := r) (m := m) (by omega); omega) h2).1
      rw [h3, trk_seq]
      exact h1
/-- How often a code occurs. -/
def manyT (c : Tr) (ls : List (List Ins)) : Nat := (ls.filter fun l => decide (codeT l = c)).length
theorem manyT_snoc (c : Tr) (ls : List (List Ins)) (l : List Ins) : manyT c (ls ++ [l]) = manyT c ls + (if codeT l = c then 1 else 0) := by
  unfold manyT
  rw [List.filter_append, List.length_append]
  by_cases h : codeT l = c <;> simp [h]
theorem manyT_none {c : Tr} {ls : List (List Ins)} (h : ∀ l ∈ ls, codeT l ≠ c) : manyT c ls = 0 := by
  unfold manyT
  rw [List.filter_eq_nil_iff.2 (fun l hl => by simpa using h l hl)]
  rfl
theorem manyT_progs {m : Nat} (hm : m ≤ 1000) {p : List Ins} (hp : validB p = true) : ∀ {r : Nat}, r ≤ wsum (m + 1) → manyT (codeT p) (progsT r) = if trk (codeT p) < r then 1 else 0
  | 0, _ => by simp [progsT, manyT]
  | r + 1, hr => by
    have ih := manyT_progs hm hp (r := r) (by omega)
    cases hd : decT (seqT r) with
    | none =>
      rw [progs_none hd, ih]
      have hne : trk (codeT p) ≠ r := fun e => by
        rw [← e, seq_trk, decT_of hp] at hd
        cases hd
      by_cases h1 : trk (codeT p) < r
      · rw [if_pos h1, if_pos (by omega)]
      · rw [if_neg h1, if_neg (by omega)]
    | some q =>
      have h3 := (decT_code (by have := seq_size (r := r) (m := m) (by omega); omega) hd).1
      rw [progs_some hd, manyT_snoc, ih, h3]
      by_cases h1 : trk (codeT p) < r
      · have h5 : ¬ seqT r = codeT p := fun e => by rw [← e, trk_seq] at h1; omega
        rw [if_pos h1, if_neg h5, if_pos (by omega)]
      · rw [if_neg h1]
        by_cases h2 : seqT r = codeT p
        · have h5 : trk (codeT p) < r + 1 := by rw [← h2, trk_seq]; omega
          rw [if_pos h2, if_pos h5]
        · have h5 : ¬ trk (codeT p) < r + 1 := fun h => h2 (by rw [← seq_trk (codeT p)]; congr 1; omega)
          rw [if_neg h2, if_neg h5]
theorem seq0 : seqT 0 = .nil := rfl
theorem dec_nil : decT .nil = some [] := by
  unfold decT decL
  simp [validB, trees, rightAll]
theorem dec_set : decT (.pair (.pair .nil (.pair .nil .nil)) .nil) = some [⟨0, 0, 0, 0, TS .nil⟩] := by
  have h1 : isTree (TS .nil) = true := isTree_TS .nil (by decide)
  have h2 : (TS .nil).size = 1 := by rw [TS_size]; rfl
  have h3 : validB [⟨0, 0, 0, 0, TS .nil⟩] = true := by
    simp [validB, trees, rightAll, rightB, h1, h2, List.range, List.range.loop, regB]
  have h4 : decL (.pair (.pair .nil (.pair .nil .nil)) .nil) = some [⟨0, 0, 0, 0, TS .nil⟩] := by
    simp [decL, decI_eq, decB, Tr.isNum, Tr.pairs, Tr.num]
  unfold decT
  rw [h4]
  exact if_pos h3
theorem wsum_four : wsum 4 = 9 := by simp [wsum, wy_step, wy_zero, wy_none]
theorem progs_three : progsT (wsum 4) = [[], [⟨0, 0, 0, 0, TS .nil⟩]] := by
  rw [wsum_four]
  have s1 : seqT 1 = .pair .nil .nil := rfl
  have s2 : seqT 2 = .pair .nil (.pair .nil .nil) := rfl
  have s3 : seqT 3 = .pair (.pair .nil .nil) .nil := rfl
  have s4 : seqT 4 = .pair .nil (.pair .nil (.pair .nil .nil)) := rfl
  have s5 : seqT 5 = .pair .nil (.pair (.pair .nil .nil) .nil) := rfl
  have s6 : seqT 6 = .pair (.pair .nil .nil) (.pair .nil .nil) := rfl
  have s7 : seqT 7 = .pair (.pair .nil (.pair .nil .nil)) .nil := rfl
  have s8 : seqT 8 = .pair (.pair (.pair .nil .nil) .nil) .nil := rfl
  have d0 : decT (seqT 0) = some [] := dec_nil
  have d1 : decT (seqT 1) = none := by rw [s1]; rfl
  have d2 : decT (seqT 2) = none := by rw [s2]; rfl
  have d3 : decT (seqT 3) = none := by rw [s3]; rfl
  have d4 : decT (seqT 4) = none := by rw [s4]; rfl
  have d5 : decT (seqT 5) = none := by rw [s5]; rfl
  have d6 : decT (seqT 6) = none := by rw [s6]; rfl
  have d7 : decT (seqT 7) = some [⟨0, 0, 0, 0, TS .nil⟩] := by rw [s7]; exact dec_set
  have d8 : decT (seqT 8) = none := by rw [s8]; rfl
  simp [progsT, d0, d1, d2, d3, d4, d5, d6, d7, d8]
end Go.Proofs.Ytdjbcmfjlfkcjaa

namespace Go.Proofs.Ytdjbcmfjlfkcjaa
open Go.RowKit

theorem unrank_neg (n : Int) (hn : n < 0) (w : World) :
    Calls Try.prog 43 #[.int .i64 n] w fun e w' => e = .returned (.tuple #[.string ⟨#[]⟩, .int .i64 2]) ∧ Below w.heap.size w w' := by
  go_enter Try.func43, Try.ntmps43
  go_wp2
  go_ret2
  exact ⟨rfl, Below.refl _ _⟩
set_option maxRecDepth 20000 in
set_option maxHeartbeats 4000000 in
theorem unrank_big (r : Nat) (hr : wsum 31 ≤ r) (hr2 : r ≤ 9223372036854775807) (w : World) :
    Calls Try.prog 43 #[.int .i64 r] w fun e w' => e = .returned (.tuple #[.string ⟨#[]⟩, .int .i64 2]) ∧ Below w.heap.size w w' := by
  have hr0 : (0 : Int) ≤ r ∧ (r : Int) ≤ 9223372036854775807 := by omega
  have HWS := Lib.hid (fun k (h : k ≤ 31) => Nat.le_trans (wsum_mono h) hr)
  clear hr hr2
  go_enter Try.func43, Try.ntmps43
  go_wp2_with fail
  refine (counted_any _).mono ?_
  rintro e w1 ⟨g, rfl, hg, hT, hb⟩
  have HT := Lib.hid hT
  have HB := Lib.hid hb
  clear hT hb
  have H0 := Lib.hid hr0
  go_wp2
  clear hr0
  go_loopg [0, 5] 31 (fun gg a b wr => ∃ k : Nat, k ≤ 31 ∧ gg = 31 - k ∧ b = .int .i64 (k : Int) ∧ a = .int .i64 ((r : Int) - (wsum k : Nat)) ∧ wr = w1)
  case atStart => exact ⟨0, by omega, rfl, rfl, by simp [wsum], rfl⟩
  case round =>
    obtain ⟨k, hk, hgg, rfl, rfl, rfl⟩ := hrel
    have HGG := Lib.hid hgg; clear hgg
    have hkI : (0 : Int) ≤ k := by omega
    by_cases hk3 : k ≤ 30
    · have hk31 : (k : Int) ≤ 30 := by omega
      have c0 := HT.out.cell (k := k) (n := 1) hk3 (by omega)
      have h1 := HWS.out (k + 1) (by omega)
      have h2 : wsum (k + 1) = wsum k + wy k 1 := rfl
      have hW := wsum_lt (k := k + 1) (by omega)
      obtain ⟨x, hx⟩ : ∃ x : Int, ((wy k 1 : Nat) : Int) = x := ⟨_, rfl⟩
      obtain ⟨y, hy⟩ : ∃ y : Int, (r : Int) - (wsum k : Nat) = y := ⟨_, rfl⟩
      rw [hx] at c0
      have hxy : 0 ≤ x ∧ x ≤ y ∧ y ≤ 9223372036854775807 := by have := H0.out; omega
      have hn : y - x = (r : Int) - (wsum (k + 1) : Nat) := by omega
      have HN := Lib.hid hn
      rw [hy]
      clear hx hy hn h1 h2 hW
      go_wp2
      go_roundg (31 - (k + 1))
      case measure => rw [HGG.out]; omega
      case rel => exact ⟨k + 1, by omega, rfl, by go_num, by rw [← HN.out], rfl⟩
    · obtain rfl : k = 31 := by omega
      generalize ((r : Int) - (wsum 31 : Nat)) = y
      go_wp2
      go_ret2
      exact ⟨rfl, HB.out⟩
set_option maxRecDepth 20000 in
set_option maxHeartbeats 4000000 in
theorem unrank_ok (r : Nat) (hr : r < wsum 31) (w : World) :
    Calls Try.prog 43 #[.int .i64 r] w fun e w' => e = .returned (.tuple #[.string (TS (seqT r)), .int .i64 0]) ∧ Below w.heap.size w w' := by
  have hbt := trk_lt (seqT r)
  have hun := (Wd.enc (seqT r)).unw_rank
  have hP30 : (seqT r).pairs ≤ 30 := seq_pairs.2 hr
  have htk := trk_seq r
  have hwk := (Wd.enc (seqT r)).rank_lt
  rw [htk] at hbt
  unfold trk at htk
  have hS : TS (seqT r) = ⟨(seqT r).enc.toArray⟩ := rfl
  rw [hS]
  generalize (seqT r).pairs = P at *
  generalize (seqT r).enc = E at *
  obtain ⟨q, hq⟩ : ∃ q, wrk P 1 E = q := ⟨_, rfl⟩
  rw [hq] at htk hun hwk
  have hrI : (0 : Int) ≤ r := by omega
  have HTK := Lib.hid htk
  have HUN := Lib.hid hun
  have HWK := Lib.hid hwk
  have HWS := Lib.hid (fun k (h : k ≤ P) => Nat.le_trans (wsum_mono h) hbt.1)
  have HR := Lib.hid hr
  clear htk hun hwk hbt hq hr hS
  go_enter Try.func43, Try.ntmps43
  go_wp2_with fail
  refine (counted_any _).mono ?_
  rintro e w1 ⟨g, rfl, hg, hT, hb⟩
  have HT := Lib.hid hT
  have HB := Lib.hid hb
  clear hT hb
  go_wp2
  clear hrI
  go_loopg [0, 5] P (fun gg a b wr => ∃ k : Nat, k ≤ P ∧ gg = P - k ∧ b = .int .i64 (k : Int) ∧ a = .int .i64 ((r : Int) - (wsum k : Nat)) ∧ wr = w1)
  case atStart => exact ⟨0, by omega, rfl, rfl, by simp [wsum], rfl⟩
  case round =>
    obtain ⟨k, hk, hgg, rfl, rfl, rfl⟩ := hrel
    have HGG := Lib.hid hgg; clear hgg
    have hkI : (0 : Int) ≤ k ∧ (k : Int) ≤ 30 := by omega
    have c0 := HT.out.cell (k := k) (n := 1) (by omega) (by omega)
    by_cases hkP : k < P
    · have h1 := HWS.out (k + 1) hkP
      have h2 : wsum (k + 1) = wsum k + wy k 1 := rfl
      have hW := wsum_lt (k := 31) (by omega)
      obtain ⟨x, hx⟩ : ∃ x : Int, ((wy k 1 : Nat) : Int) = x := ⟨_, rfl⟩
      obtain ⟨y, hy⟩ : ∃ y : Int, (r : Int) - (wsum k : Nat) = y := ⟨_, rfl⟩
      rw [hx] at c0
      have hxy : 0 ≤ x ∧ x ≤ y ∧ y ≤ 9223372036854775807 := by have := HR.out; omega
      have hn : y - x = (r : Int) - (wsum (k + 1) : Nat) := by omega
      have HN := Lib.hid hn
      rw [hy]
      clear hx hy hn h1 h2 hW
      go_wp2
      go_roundg (P - (k + 1))
      case measure => rw [HGG.out]; omega
      case rel => exact ⟨k + 1, by omega, rfl, by go_num, by rw [← HN.out], rfl⟩
    · obtain rfl : k = P := by omega
      have hqr : (r : Int) - (wsum k : Nat) = (q : Int) := by have := HTK.out; omega
      rw [hqr]
      obtain ⟨x, hx⟩ : ∃ x : Int, ((wy k 1 : Nat) : Int) = x := ⟨_, rfl⟩
      rw [hx] at c0
      have hxy : ¬ x ≤ (q : Int) := by have := HWK.out; omega
      clear hx hqr
      go_wp2
      clear hxy c0
      have hB0 : Lib.IsBuilder 114 5 wr.heap.size wr.heap.size (Lib.byteCells []) (wr.alloc (.cells #[.pointer none, .slice none 0 0] 114)) := Lib.fresh_isBuilder _ _ wr
      have hbA : Below wr.heap.size wr (wr.alloc (.cells #[.pointer none, .slice none 0 0] 114)) := (Below.refl _ _).alloc (Nat.le_refl _) _
      have hs0 : wr.heap.size < (wr.alloc (.cells #[.pointer none, .slice none 0 0] 114)).heap.size := by simp
      generalize wr.alloc (.cells #[.pointer none, .slice none 0 0] 114) = w2 at *
      obtain ⟨b, hb⟩ : ∃ b, wr.heap.size = b := ⟨_, rfl⟩
      have HBE := Lib.hid hb
      rw [hb] at hB0 hbA hs0
      simp only [hb]
      clear hb
      have hUN : [] ++ unw k 1 q = E := HUN.out
      have hgb : g < b := by rw [← HBE.out]; exact HT.out.lt
      go_loopg [0, 5, 7] (2 * k + 1) (fun gg a c d wz => ∃ (p o rr : Nat) (pre : List UInt8), gg = 2 * p + o ∧ a = .int .i64 (rr : Int) ∧ c = .int .i64 (p : Int) ∧ d = .int .i64 (o : Int) ∧ p ≤ 30 ∧ o + p ≤ 31 ∧ pre.length + (2 * p + o) ≤ 61 ∧ Hid (rr < wy p o) ∧ Hid (pre ++ unw p o rr = E) ∧
        Lib.IsBuilder 114 5 b b (Lib.byteCells pre) wz ∧ Below b wr wz ∧ b < wz.heap.size)
      case atStart => exact ⟨k, 1, q, [], rfl, rfl, rfl, rfl, by omega, by omega, by simp; omega, HWK, Lib.hid hUN, hB0, hbA, hs0⟩
      case round =>
        clear hB0 hbA hs0 hUN
        obtain ⟨p, o, rr, pre, hgg, rfl, rfl, rfl, hp, hop, hlen, hrw, hpre, hB, hbz, hsz⟩ := hrel
        have HGQ := Lib.hid hgg; clear hgg HGG
        cases o with
        | zero =>
          have hp0 : p = 0 := by
            cases p with
            | zero => rfl
            | succ p => have := hrw.out; rw [wy_none] at this; omega
          subst hp0
          have hE : pre = E := by have := hpre.out; rw [unw_none, List.append_nil] at this; exact this
          clear hrw hpre
          subst hE
          go_wp2_with fail
          refine (Try.Builder_String_any b b _ _ hB (by omega)).mono ?_
          rintro e w4 ⟨rfl, hb4⟩
          go_wp2
          go_ret2
          refine ⟨rfl, HB.out.trans ((hbz.trans hb4).mono ?_)⟩
          rw [← HBE.out]
          exact HB.out.size
        | succ o =>
          have hTz := Lib.hid (HT.out.below HT.out.lt (by rw [HBE.out]; exact hbz))
          have c0 := hTz.out.cell (k := p) (n := o) hp (by omega)
          have hoI : (0 : Int) ≤ o ∧ (o : Int) ≤ 31 := by omega
          have hpI : (0 : Int) ≤ p ∧ (p : Int) ≤ 30 := by omega
          obtain ⟨x, hx⟩ : ∃ x : Int, ((wy p o : Nat) : Int) = x := ⟨_, rfl⟩
          rw [hx] at c0
          have hwl := wy_lt (k := p) (n := o) (by omega) hp
          by_cases hlt : rr < wy p o
          · have hxr : (rr : Int) < x := by omega
            have hE : pre ++ [48] ++ unw p o rr = E := by have := hpre.out; rw [unw_lt hlt] at this; simpa using this
            have HE := Lib.hid hE
            have HLT := Lib.hid hlt
            clear hx hwl hE hlt hrw hpre
            go_wp2_with fail
            refine (Try.Builder_WriteByte b b _ 48 _ hB (by rw [Lib.byteCells_length]; omega) (by omega)).mono ?_
            rintro e w3 ⟨rfl, hB3, hb3⟩
            have hs3 := hb3.size
            go_wp2
            go_roundg (2 * p + o)
            case measure => rw [HGQ.out]; omega
            case rel =>
              refine ⟨p, o, rr, pre ++ [48], rfl, rfl, rfl, by go_num, hp, by omega, by simp; omega, HLT, HE, ?_, hbz.trans hb3, by omega⟩
              refine .inr ?_
              have : Lib.byteCells (pre ++ [48]) = Lib.byteCells pre ++ [.int .u8 48] := by simp [Lib.byteCells]
              rw [this]; exact hB3
          · cases p with
            | zero => exact absurd (by have := hrw.out; rw [wy_zero] at *; exact this) hlt
            | succ p =>
              have hrr : rr - wy (p + 1) o < wy p (o + 2) := by have := hrw.out; rw [wy_step] at this; omega
              obtain ⟨y, hy⟩ : ∃ y : Int, (rr : Int) = y := ⟨_, rfl⟩
              have hxy : 0 ≤ x ∧ x ≤ y ∧ y ≤ 9223372036854775807 := by
                have h1 := hrw.out
                have h2 := wy_lt (k := p + 1) (n := o + 1) (by omega) hp
                omega
              have hsub : y - x = ((rr - wy (p + 1) o : Nat) : Int) := by omega
              rw [hy]
              have hE : pre ++ [49] ++ unw p (o + 2) (rr - wy (p + 1) o) = E := by have := hpre.out; rw [unw_ge hlt] at this; simpa using this
              have HE := Lib.hid hE
              have HRR := Lib.hid hrr
              have HSUB := Lib.hid hsub
              clear hx hwl hE hlt hrw hpre hrr hsub hy
              go_wp2_with fail
              refine (Try.Builder_WriteByte b b _ 49 _ hB (by rw [Lib.byteCells_length]; omega) (by omega)).mono ?_
              rintro e w3 ⟨rfl, hB3, hb3⟩
              have hs3 := hb3.size
              go_wp2
              go_roundg (2 * p + (o + 2))
              case measure => rw [HGQ.out]; omega
              case rel =>
                refine ⟨p, o + 2, rr - wy (p + 1) o, pre ++ [49], rfl, by rw [← HSUB.out], by go_num, by go_num, by omega, by omega, by simp; omega, HRR, HE, ?_, hbz.trans hb3, by omega⟩
                refine .inr ?_
                have : Lib.byteCells (pre ++ [49]) = Lib.byteCells pre ++ [.int .u8 49] := by simp [Lib.byteCells]
                rw [this]; exact hB3
end Go.Proofs.Ytdjbcmfjlfkcjaa

namespace Go.Proofs.Ytdjbcmfjlfkcjaa
open Go.RowKit

theorem thenL_succ (ls : List (List Ins)) (k : Nat) {l : List Ins} (hl : ls[k]? = some l) : thenL (ls.take (k + 1)) = thenL (ls.take k) ++ (if k = 0 then l else cleanP l) := by
  rw [take_snoc' _ _ _ hl]
  cases k with
  | zero => simp [thenL]
  | succ k =>
    cases ls with
    | nil => simp at hl
    | cons x xs => simp [thenL, List.take_succ_cons]
theorem thenL_len (ls : List (List Ins)) (hv : allV ls = true) : (thenL ls).length ≤ lenS ls + 32 * ls.length := by
  cases ls with
  | nil => simp [thenL]
  | cons x xs =>
    have : ∀ ys : List (List Ins), allV ys = true → ((ys.map cleanP).flatten).length ≤ lenS ys + 32 * ys.length := by
      intro ys
      induction ys with
      | nil => intro _; simp
      | cons y ys ih =>
        intro h
        simp only [allV, List.all_cons, Bool.and_eq_true] at h
        have h1 := ih h.2
        have h2 := mostN_lt (validB_all h.1) y.length (Nat.le_refl _)
        rw [mostN_all] at h2
        simp only [List.map_cons, List.flatten_cons, List.length_append, cleanP_length, List.length_cons, lenS, List.sum_cons] at h1 ⊢
        omega
    simp only [allV, List.all_cons, Bool.and_eq_true] at hv
    have h1 := this xs hv.2
    simp only [thenL, List.length_append, lenS, List.map_cons, List.sum_cons, List.length_cons] at h1 ⊢
    omega
theorem allV_take {ls : List (List Ins)} (h : allV ls = true) (k : Nat) : allV (ls.take k) = true := List.all_eq_true.2 fun x hx => List.all_eq_true.1 h x (List.mem_of_mem_take hx)

end Go.Proofs.Ytdjbcmfjlfkcjaa

namespace Go.Proofs.Ytdjbcmfjlfkcjaa
open Go.RowKit

theorem thenL_mono (ls : List (List Ins)) (k : Nat) : (thenL (ls.take k)).length ≤ (thenL ls).length := by
  cases ls with
  | nil => simp
  | cons x xs =>
    cases k with
    | zero => simp [thenL]
    | succ k =>
      simp only [List.take_succ_cons, thenL, List.length_append]
      have h : ((xs.take k).map cleanP).flatten.length ≤ (xs.map cleanP).flatten.length := by
        conv => rhs; rw [← List.take_append_drop k xs]
        rw [List.map_append, List.flatten_append, List.length_append]; omega
      omega
theorem valid_large {l : List Ins} (h : 4000 < l.length) : validB l = false := by
  cases hv : validB l with
  | false => rfl
  | true => have := validB_len hv; omega

set_option maxHeartbeats 4000000 in
theorem bThen_main (ao : Option Addr) (n cap : Nat) (ls : List (List Ins)) (w : World) (HL : Hid (ProgsRow w w.heap.size (.slice ao n cap) ls)) (HN : Hid (ls.length = n)) (HV : Hid (allV ls = true)) (m : Nat) (HM : Hid (mostR ls = m)) (hm : m ≤ 28) (d : Int) (HD : Hid ((if validB (thenL ls) = true then 0 else 3) = d)) (hn : n ≤ 5864062014805) :
    Calls Try.prog 30 #[.slice ao n cap] w (MadeOut w d (thenL ls)) := by
  have kc := check_any _ _ _ HL.out
  rw [show CheckOut ls = .tuple #[.int .i64 (m : Nat), .int .i64 0] by unfold CheckOut; rw [if_neg (by rw [HV.out]; simp), if_neg (by rw [HM.out]; omega), HM.out]] at kc
  go_enter Try.func30, Try.ntmps30
  go_wp2_with fail
  refine kc.mono ?_
  rintro e w1 ⟨rfl, hb1⟩
  have HL1 := Lib.hid (HL.out.step hb1)
  have HB1 := Lib.hid hb1
  clear kc hb1 HL
  go_wp2
  go_loopg [6, 19] n (fun gg o i wr => ∃ k : Nat, k ≤ n ∧ gg = n - k ∧ i = .int .i64 k ∧ Hid (OwnI wr w1.heap.size o (thenL (ls.take k)) ∧ Below w1.heap.size w1 wr ∧ (thenL (ls.take k)).length ≤ 4000))
  case atStart => exact ⟨0, by omega, rfl, rfl, OwnI.nil _ _, Below.refl _ _, by simp [thenL]⟩
  case round =>
    obtain ⟨k, hk, hg, rfl, hP⟩ := hrel
    have HG := Lib.hid hg; clear hg
    by_cases hlt : k < n
    · obtain ⟨l, hx⟩ : ∃ s, ls[k]? = some s := ⟨_, List.getElem?_eq_getElem (by rw [HN.out]; exact hlt)⟩
      have hl2 := HL1.out.step hP.out.2.1
      obtain ⟨g, off, u, rfl, hg, c0, hu⟩ := hl2.get hx
      have hi0 : (0 : Int) ≤ (k : Int) := Int.natCast_nonneg _
      have hi1 : (k : Int) < (n : Int) := by omega
      have hvl := allV_get HV.out hx
      have hn4 := validB_len hvl
      have HX := Lib.hid hx
      clear hx hl2
      by_cases hk0 : k = 0
      · subst hk0
        have ho0 := hP.out.1
        have hb0 := hP.out.2.1
        have hc0 : wr.cell? ⟨g, off, none⟩ = some u := by simpa using c0
        have hA := Lib.hid hP.out.2.2
        go_wp2_with (at_builtin; refine app_row rfl _ _ rfl (vx := u) rfl ho0 rfl hu ?c2 hb0 ?_)
        case c2 => have := hA.out; omega
        intro a' k' c' w' hk' ho' hb'
        have hnew : Hid (OwnI w' w1.heap.size (.slice a' k' c') (thenL (ls.take (0 + 1))) ∧ Below w1.heap.size w1 w' ∧ (thenL (ls.take (0 + 1))).length ≤ 4000) := Lib.hid ⟨by rw [thenL_succ ls 0 HX.out, if_pos rfl]; exact ho'.out, hb'.out, by rw [thenL_succ ls 0 HX.out, if_pos rfl]; simp [thenL]; omega⟩
        clear ho0 hb0 hP hu hc0 c0
        go_wp2
        go_roundg (n - (0 + 1))
        case measure => rw [HG.out]; omega
        case rel => exact ⟨0 + 1, by omega, rfl, by go_num, hnew⟩
      · have hkI : ¬ (k : Int) = 0 := by omega
        obtain ⟨ua, uc, rfl⟩ := hu.len
        go_wp2_with fail
        refine (fresh_len _ l _ hu hvl).mono ?_
        rintro e w2 ⟨ya, ky, yc, rfl, hky, hY, hb1⟩
        have ho0 := hP.out.1.below hb1
        have hb0 := hP.out.2.1.trans (hb1.mono hP.out.2.1.size)
        have hA := Lib.hid hP.out.2.2
        go_wp2_with (at_builtin; refine app_row rfl _ _ rfl (vx := .slice ya ky yc) rfl ho0 rfl hY ?c2 hb0 ?_)
        case c2 => have h1 := hA.out; have h2 := hky.out; rw [cleanP_length]; omega
        intro a' k' c' w' hk' ho' hb'
        have ho2 : Hid (OwnI w' w1.heap.size (.slice a' k' c') (thenL (ls.take (k + 1)))) := Lib.hid (by rw [thenL_succ ls k HX.out, if_neg hk0]; exact ho'.out)
        have hlen : Hid (k' = (thenL (ls.take (k + 1))).length) := Lib.hid (by rw [thenL_succ ls k HX.out, if_neg hk0, List.length_append]; exact hk'.out)
        have hk'0 : (0 : Int) ≤ (k' : Int) := Int.natCast_nonneg _
        clear ho0 hb0 hP hu c0 hY hb1 ho' hk'
        by_cases hbig : 4000 < k'
        · have hbI : (4000 : Int) < (k' : Int) := by omega
          have hd3 : Hid (d = 3) := Lib.hid (by rw [← HD.out, valid_large (by have := thenL_mono ls (k + 1); have := hlen.out; omega)]; rfl)
          have hch := HB1.out.trans (hb'.out.mono HB1.out.size)
          go_wp2
          refine bodyPost_ret (v := .tuple #[.slice none 0 0, .int .i64 3]) (by simp [results, Try.results30, go_sem]) rfl ?_
          rw [hd3.out]
          exact MadeOut.bad (by decide) rfl hch
        · have hbI : (k' : Int) ≤ (4000 : Int) := by omega
          have hnew : Hid (OwnI w' w1.heap.size (.slice a' k' c') (thenL (ls.take (k + 1))) ∧ Below w1.heap.size w1 w' ∧ (thenL (ls.take (k + 1))).length ≤ 4000) := Lib.hid ⟨ho2.out, hb'.out, by have := hlen.out; omega⟩
          go_wp2
          go_roundg (n - (k + 1))
          case measure => rw [HG.out]; omega
          case rel => exact ⟨k + 1, by omega, rfl, by go_num, hnew⟩
    · have hkn : k = n := by omega
      subst hkn
      have hfin := hP.out.1
      have hb0 := hP.out.2.1
      have hA := hP.out.2.2
      rw [List.take_of_length_le (by rw [HN.out]; omega)] at hfin hA
      have HROW := Lib.hid (hfin.row (by omega))
      have HB2 := Lib.hid (HB1.out.trans (hb0.mono HB1.out.size))
      obtain ⟨fa, fc, hv'⟩ := hfin.slice
      have HVV := Lib.hid hv'
      clear hfin hb0 hA hP hv'
      cases hvm : validB (thenL ls) with
      | false =>
        have hd3 : Hid (d = 3) := Lib.hid (by rw [← HD.out, hvm]; rfl)
        rw [HVV.out] at HROW ⊢
        have kd := done_bad fa _ fc _ wr HROW.out hvm
        clear hvm
        go_wp2_with fail
        refine kd.mono ?_
        rintro e w2 ⟨rfl, hb2⟩
        have hch := HB2.out.trans (hb2.mono HB2.out.size)
        go_wp2
        refine bodyPost_ret (v := .tuple #[.slice none 0 0, .int .i64 3]) (by simp [results, Try.results30, go_sem]) rfl ?_
        rw [hd3.out]
        exact MadeOut.bad (by decide) rfl hch
      | true =>
        have hd0 : Hid (d = 0) := Lib.hid (by rw [← HD.out, hvm]; rfl)
        rw [HVV.out] at HROW ⊢
        have kd := done_ok fa _ fc _ wr HROW.out hvm
        clear hvm
        go_wp2_with fail
        refine kd.mono ?_
        rintro e w2 ⟨rfl, hb2⟩
        have hch := HB2.out.trans (hb2.mono HB2.out.size)
        have HR2 := (HROW.out.below hb2).mono hb2.size
        go_wp2
        refine bodyPost_ret (v := .tuple #[.slice fa (thenL ls).length fc, .int .i64 0]) (by simp [results, Try.results30, go_sem]) rfl ?_
        rw [hd0.out]
        exact MadeOut.ok rfl rfl HR2 hch

theorem bThen_any (ao : Option Addr) (n cap : Nat) (ls : List (List Ins)) (w : World) (hl : ProgsRow w w.heap.size (.slice ao n cap) ls) :
    Calls Try.prog 30 #[.slice ao n cap] w (MadeOut w (dueN ls (thenL ls)) (thenL ls)) := by
  have hn : ls.length = n := by obtain ⟨a, c, h⟩ := hl.len; simp only [Value.slice.injEq] at h; exact h.2.1.symm
  have hn5 := hl.1
  have kc := check_any _ _ _ hl
  unfold dueN
  cases hv : allV ls with
  | false =>
    rw [if_pos rfl]
    rw [show CheckOut ls = .tuple #[.int .i64 0, .int .i64 1] by unfold CheckOut; rw [if_pos hv]] at kc
    clear hv hl hn hn5
    go_enter Try.func30, Try.ntmps30
    go_wp2_with fail
    refine kc.mono ?_
    rintro e w1 ⟨rfl, hb1⟩
    go_wp2
    refine bodyPost_ret (v := .tuple #[.slice none 0 0, .int .i64 1]) (by simp [results, Try.results30, go_sem]) rfl ?_
    exact MadeOut.bad (by decide) rfl hb1
  | true =>
    rw [if_neg (by simp)]
    by_cases hr : 28 < mostR ls
    · rw [if_pos hr]
      rw [show CheckOut ls = .tuple #[.int .i64 0, .int .i64 8] by unfold CheckOut; rw [if_neg (by rw [hv]; simp), if_pos hr]] at kc
      clear hv hl hn hn5 hr
      go_enter Try.func30, Try.ntmps30
      go_wp2_with fail
      refine kc.mono ?_
      rintro e w1 ⟨rfl, hb1⟩
      go_wp2
      refine bodyPost_ret (v := .tuple #[.slice none 0 0, .int .i64 8]) (by simp [results, Try.results30, go_sem]) rfl ?_
      exact MadeOut.bad (by decide) rfl hb1
    · rw [if_neg hr]
      exact bThen_main ao n cap ls w (Lib.hid hl) (Lib.hid hn) (Lib.hid hv) _ (Lib.hid rfl) (by omega) _ (Lib.hid rfl) (by omega)

end Go.Proofs.Ytdjbcmfjlfkcjaa

namespace Go.Proofs.Ytdjbcmfjlfkcjaa
open Go.RowKit

set_option maxHeartbeats 4000000 in
theorem bWhile_form (ca0 : Option Addr) (cn0 cc0 : Nat) (pa : Option Addr) (pn pc : Nat) (c p : List Ins) (w : World) (hhC : InsRow w w.heap.size (.slice ca0 cn0 cc0) c) (hhP : InsRow w w.heap.size (.slice pa pn pc) p) (HV : Hid (allV [c, p] = false)) :
    Calls Try.prog 23 #[.slice ca0 cn0 cc0, .slice pa pn pc] w (MadeOut w 1 (whileL c p)) := by
  have hC := Lib.hid hhC
  clear hhC
  have hP := Lib.hid hhP
  clear hhP
  have ch := Lib.hid (Below.refl w.heap.size w)
  go_enter Try.func23, Try.ntmps23
  go_wp2_with fail
  have hL0 := ProgsRow.lit (w := w) [.slice ca0 cn0 cc0, .slice pa pn pc] [c, p] rfl (by simp) (fun j u l hu hl => match j, u, l, hu, hl with | 0, _, _, hu, hl => by cases hu; cases hl; exact hC.out | 1, _, _, hu, hl => by cases hu; cases hl; exact hP.out)
  obtain ⟨w1, hW⟩ : ∃ B, w.alloc (.cells #[.slice ca0 cn0 cc0, .slice pa pn pc] 23) = B := ⟨_, rfl⟩
  rw [hW]
  have hq : Below w.heap.size w w1 := by rw [← hW]; exact (Below.refl _ _).alloc (Nat.le_refl _) _
  have hL := Lib.hid (show ProgsRow w1 w1.heap.size (.slice (some ⟨w.heap.size, 0, none⟩) 2 2) [c, p] by rw [← hW]; exact hL0)
  clear hW hL0
  have hC := Lib.hid ((hC.out.below hq).mono hq.size)
  have hP := Lib.hid ((hP.out.below hq).mono hq.size)
  have ch := Lib.hid (ch.out.trans (hq.mono ch.out.size))
  clear hq
  have kc := check_any _ _ _ hL.out
  rw [show CheckOut [c, p] = .tuple #[.int .i64 0, .int .i64 1] by unfold CheckOut; rw [if_pos HV.out]] at kc
  refine (kc).mono ?_
  rintro e w2 ⟨rfl, hq⟩
  have hC := Lib.hid ((hC.out.below hq).mono hq.size)
  have hP := Lib.hid ((hP.out.below hq).mono hq.size)
  have ch := Lib.hid (ch.out.trans (hq.mono ch.out.size))
  clear hq
  clear kc hL
  go_wp2
  refine bodyPost_ret (v := .tuple #[.slice none 0 0, .int .i64 1]) (by simp [results, Try.results23, go_sem]) rfl ?_
  exact MadeOut.bad (by decide) rfl ch.out

set_option maxHeartbeats 4000000 in
theorem bWhile_regs (ca0 : Option Addr) (cn0 cc0 : Nat) (pa : Option Addr) (pn pc : Nat) (c p : List Ins) (w : World) (hhC : InsRow w w.heap.size (.slice ca0 cn0 cc0) c) (hhP : InsRow w w.heap.size (.slice pa pn pc) p) (HV : Hid (allV [c, p] = true)) (HR : Hid (28 < mostR [c, p])) :
    Calls Try.prog 23 #[.slice ca0 cn0 cc0, .slice pa pn pc] w (MadeOut w 8 (whileL c p)) := by
  have hC := Lib.hid hhC
  clear hhC
  have hP := Lib.hid hhP
  clear hhP
  have ch := Lib.hid (Below.refl w.heap.size w)
  go_enter Try.func23, Try.ntmps23
  go_wp2_with fail
  have hL0 := ProgsRow.lit (w := w) [.slice ca0 cn0 cc0, .slice pa pn pc] [c, p] rfl (by simp) (fun j u l hu hl => match j, u, l, hu, hl with | 0, _, _, hu, hl => by cases hu; cases hl; exact hC.out | 1, _, _, hu, hl => by cases hu; cases hl; exact hP.out)
  obtain ⟨w1, hW⟩ : ∃ B, w.alloc (.cells #[.slice ca0 cn0 cc0, .slice pa pn pc] 23) = B := ⟨_, rfl⟩
  rw [hW]
  have hq : Below w.heap.size w w1 := by rw [← hW]; exact (Below.refl _ _).alloc (Nat.le_refl _) _
  have hL := Lib.hid (show ProgsRow w1 w1.heap.size (.slice (some ⟨w.heap.size, 0, none⟩) 2 2) [c, p] by rw [← hW]; exact hL0)
  clear hW hL0
  have hC := Lib.hid ((hC.out.below hq).mono hq.size)
  have hP := Lib.hid ((hP.out.below hq).mono hq.size)
  have ch := Lib.hid (ch.out.trans (hq.mono ch.out.size))
  clear hq
  have kc := check_any _ _ _ hL.out
  rw [show CheckOut [c, p] = .tuple #[.int .i64 0, .int .i64 8] by unfold CheckOut; rw [if_neg (by rw [HV.out]; simp), if_pos HR.out]] at kc
  refine (kc).mono ?_
  rintro e w2 ⟨rfl, hq⟩
  have hC := Lib.hid ((hC.out.below hq).mono hq.size)
  have hP := Lib.hid ((hP.out.below hq).mono hq.size)
  have ch := Lib.hid (ch.out.trans (hq.mono ch.out.size))
  clear hq
  clear kc hL
  go_wp2
  refine bodyPost_ret (v := .tuple #[.slice none 0 0, .int .i64 8]) (by simp [results, Try.results23, go_sem]) rfl ?_
  exact MadeOut.bad (by decide) rfl ch.out

set_option maxHeartbeats 4000000 in
theorem bWhile_ok (ca0 : Option Addr) (cn0 cc0 : Nat) (pa : Option Addr) (pn pc : Nat) (c p : List Ins) (w : World) (hhC : InsRow w w.heap.size (.slice ca0 cn0 cc0) c) (hhP : InsRow w w.heap.size (.slice pa pn pc) p) (HV : Hid (allV [c, p] = true)) (n : Nat) (HN : Hid (mostR [c, p] = n)) (hn28 : n ≤ 28) (d : Int) (HD : Hid ((if validB (whileL c p) = true then 0 else 3) = d)) :
    Calls Try.prog 23 #[.slice ca0 cn0 cc0, .slice pa pn pc] w (MadeOut w d (whileL c p)) := by
  have hC := Lib.hid hhC
  clear hhC
  have hP := Lib.hid hhP
  clear hhP
  have ch := Lib.hid (Below.refl w.heap.size w)
  go_enter Try.func23, Try.ntmps23
  go_wp2_with fail
  have hL0 := ProgsRow.lit (w := w) [.slice ca0 cn0 cc0, .slice pa pn pc] [c, p] rfl (by simp) (fun j u l hu hl => match j, u, l, hu, hl with | 0, _, _, hu, hl => by cases hu; cases hl; exact hC.out | 1, _, _, hu, hl => by cases hu; cases hl; exact hP.out)
  obtain ⟨w1, hW⟩ : ∃ B, w.alloc (.cells #[.slice ca0 cn0 cc0, .slice pa pn pc] 23) = B := ⟨_, rfl⟩
  rw [hW]
  have hq : Below w.heap.size w w1 := by rw [← hW]; exact (Below.refl _ _).alloc (Nat.le_refl _) _
  have hL := Lib.hid (show ProgsRow w1 w1.heap.size (.slice (some ⟨w.heap.size, 0, none⟩) 2 2) [c, p] by rw [← hW]; exact hL0)
  clear hW hL0
  have hC := Lib.hid ((hC.out.below hq).mono hq.size)
  have hP := Lib.hid ((hP.out.below hq).mono hq.size)
  have ch := Lib.hid (ch.out.trans (hq.mono ch.out.size))
  clear hq
  have kc := check_any _ _ _ hL.out
  rw [show CheckOut [c, p] = .tuple #[.int .i64 (n : Nat), .int .i64 0] by unfold CheckOut; rw [if_neg (by rw [HV.out]; simp), if_neg (by rw [HN.out]; omega), HN.out]] at kc
  refine (kc).mono ?_
  rintro e w2 ⟨rfl, hq⟩
  have hC := Lib.hid ((hC.out.below hq).mono hq.size)
  have hP := Lib.hid ((hP.out.below hq).mono hq.size)
  have ch := Lib.hid (ch.out.trans (hq.mono ch.out.size))
  clear hq
  clear kc hL
  have hvc := allV_get HV.out (k := 0) (l := c) rfl
  have hvp := allV_get HV.out (k := 1) (l := p) rfl
  have hc4 := validB_len hvc
  have hp4 := validB_len hvp
  have hmax : Hid (max (regN c) (regN p) = n) := Lib.hid (by have h1 := HN.out; have h2 := regN_le (validB_all hvp); unfold mostR at h1; simp at h1; omega)
  go_wp2_with fail
  refine (bmove_any (n : Nat) 0 _).mono ?_
  rintro e w3 ⟨rfl, hq⟩
  have hC := Lib.hid ((hC.out.below hq).mono hq.size)
  have hP := Lib.hid ((hP.out.below hq).mono hq.size)
  have ch := Lib.hid (ch.out.trans (hq.mono ch.out.size))
  clear hq
  go_wp2_with fail
  have q_hC := hC
  have q_hP := hP
  have rl := Lib.hid (Below.refl w3.heap.size w3)
  obtain ⟨w4, hW⟩ : ∃ B, w3.alloc (.cells #[.int .i64 1, .int .i64 (n : Nat), .int .i64 0, .int .i64 0, .string ⟨#[]⟩] 75) = B := ⟨_, rfl⟩
  rw [hW]
  have hq : Below w3.heap.size w3 w4 := by rw [← hW]; exact (Below.refl _ _).alloc (Nat.le_refl _) _
  have hask := Lib.hid (show OwnI w4 w3.heap.size (.slice (some ⟨w3.heap.size, 0, none⟩) 1 1) [moveI n 0] by rw [← hW]; exact OwnI.lit w3 [moveI n 0] (by simp; exact moveI_wf _ _ (by omega) (by omega)) (by simp))
  clear hW
  have hC := Lib.hid ((hC.out.below hq).mono hq.size)
  have hP := Lib.hid ((hP.out.below hq).mono hq.size)
  have rl := Lib.hid (rl.out.trans (hq.mono rl.out.size))
  clear hq
  have hbA := Lib.hid ch.out.size
  refine (fresh_len _ c _ hC.out hvc).mono ?_
  rintro e w5 ⟨fa, fk, fc, rfl, hfk, hF, hq⟩
  have hC := Lib.hid ((hC.out.below hq).mono hq.size)
  have hP := Lib.hid ((hP.out.below hq).mono hq.size)
  have hask := Lib.hid (hask.out.below hq)
  have rl := Lib.hid (rl.out.trans (hq.mono rl.out.size))
  clear hq
  have hF := Lib.hid hF
  have ho0 := hask.out
  have hb0 := rl.out
  have hs0 := hF.out
  go_wp2_with (at_builtin; refine app_row rfl _ _ rfl (v := .slice (some ⟨w3.heap.size, 0, none⟩) 1 1) (vx := .slice fa fk fc) rfl ho0 rfl hs0 ?c2 hb0 ?_)
  case c2 => have := hfk.out; simp [cleanP_length]; omega
  clear ho0 hb0 hs0 hask
  intro a6 k6 s6 w6 hk6 hask hb
  have rl := hb
  clear hb
  have hC := Lib.hid ((q_hC.out.below rl.out).mono rl.out.size)
  have hP := Lib.hid ((q_hP.out.below rl.out).mono rl.out.size)
  clear hF
  have ch := Lib.hid (ch.out.trans (rl.out.mono ch.out.size))
  go_wp2_with fail
  refine (bmove_any 0 (n : Nat) _).mono ?_
  rintro e w7 ⟨rfl, hq⟩
  have hC := Lib.hid ((hC.out.below hq).mono hq.size)
  have hP := Lib.hid ((hP.out.below hq).mono hq.size)
  have hask := Lib.hid (hask.out.below hq)
  have ch := Lib.hid (ch.out.trans (hq.mono ch.out.size))
  clear hq
  go_wp2_with fail
  have q_hC := hC
  have q_hP := hP
  have q_hask := hask
  have rl := Lib.hid (Below.refl w7.heap.size w7)
  obtain ⟨w8, hW⟩ : ∃ B, w7.alloc (.cells #[.int .i64 1, .int .i64 0, .int .i64 (n : Nat), .int .i64 0, .string ⟨#[]⟩] 75) = B := ⟨_, rfl⟩
  rw [hW]
  have hq : Below w7.heap.size w7 w8 := by rw [← hW]; exact (Below.refl _ _).alloc (Nat.le_refl _) _
  have hwork := Lib.hid (show OwnI w8 w7.heap.size (.slice (some ⟨w7.heap.size, 0, none⟩) 1 1) [moveI 0 n] by rw [← hW]; exact OwnI.lit w7 [moveI 0 n] (by simp; exact moveI_wf _ _ (by omega) (by omega)) (by simp))
  clear hW
  have hC := Lib.hid ((hC.out.below hq).mono hq.size)
  have hP := Lib.hid ((hP.out.below hq).mono hq.size)
  have hask := Lib.hid (hask.out.below hq)
  have rl := Lib.hid (rl.out.trans (hq.mono rl.out.size))
  clear hq
  have hAb := Lib.hid (fun g hg => (q_hask.out.own.lt g hg).2)
  refine (fresh_len _ p _ hP.out hvp).mono ?_
  rintro e w9 ⟨ga, gk, gc, rfl, hgk, hG, hq⟩
  have hC := Lib.hid ((hC.out.below hq).mono hq.size)
  have hP := Lib.hid ((hP.out.below hq).mono hq.size)
  have hask := Lib.hid (hask.out.below hq)
  have hwork := Lib.hid (hwork.out.below hq)
  have rl := Lib.hid (rl.out.trans (hq.mono rl.out.size))
  clear hq
  have hG := Lib.hid hG
  have ho0 := hwork.out
  have hb0 := rl.out
  have hs0 := hG.out
  go_wp2_with (at_builtin; refine app_row rfl _ _ rfl (v := .slice (some ⟨w7.heap.size, 0, none⟩) 1 1) (vx := .slice ga gk gc) rfl ho0 rfl hs0 ?c2 hb0 ?_)
  case c2 => have := hgk.out; simp [cleanP_length]; omega
  clear ho0 hb0 hs0 hwork
  intro a10 k10 s10 w10 hk10 hwork hb
  have rl := hb
  clear hb
  have hC := Lib.hid ((q_hC.out.below rl.out).mono rl.out.size)
  have hP := Lib.hid ((q_hP.out.below rl.out).mono rl.out.size)
  clear hG
  have hask := Lib.hid (q_hask.out.below rl.out)
  have ch := Lib.hid (ch.out.trans (rl.out.mono ch.out.size))
  have hWb := Lib.hid (fun g hg => (hwork.out.own.lt g hg).1)
  have hWork := Lib.hid (hwork.out.row (by have := hgk.out; simp [cleanP_length]; omega))
  have hkw : Hid (k10 = 1 + (mostN p + p.length)) := Lib.hid (by have h8 := hk10.out; simp [cleanP_length] at h8; omega)
  have hkwI : (k10 : Int) ≤ 5000 := by have := hkw.out; have := hgk.out; omega
  have hkw0 : (0 : Int) ≤ (k10 : Int) := Int.natCast_nonneg _
  go_wp2_with fail
  refine (bmove_any 0 (n : Nat) _).mono ?_
  rintro e w11 ⟨rfl, hq⟩
  have hC := Lib.hid ((hC.out.below hq).mono hq.size)
  have hP := Lib.hid ((hP.out.below hq).mono hq.size)
  have hWork := Lib.hid ((hWork.out.below hq).mono hq.size)
  have hask := Lib.hid (hask.out.below hq)
  have ch := Lib.hid (ch.out.trans (hq.mono ch.out.size))
  clear hq
  go_wp2_with fail
  have q_hC := hC
  have q_hP := hP
  have q_hWork := hWork
  have q_hask := hask
  have rl := Lib.hid (Below.refl w11.heap.size w11)
  obtain ⟨w12, hW⟩ : ∃ B, w11.alloc (.cells #[.int .i64 1, .int .i64 0, .int .i64 (n : Nat), .int .i64 0, .string ⟨#[]⟩] 75) = B := ⟨_, rfl⟩
  rw [hW]
  have hq : Below w11.heap.size w11 w12 := by rw [← hW]; exact (Below.refl _ _).alloc (Nat.le_refl _) _
  have hlv := Lib.hid (show OwnI w12 w11.heap.size (.slice (some ⟨w11.heap.size, 0, none⟩) 1 1) [moveI 0 n] by rw [← hW]; exact OwnI.lit w11 [moveI 0 n] (by simp; exact moveI_wf _ _ (by omega) (by omega)) (by simp))
  clear hW
  have hC := Lib.hid ((hC.out.below hq).mono hq.size)
  have hP := Lib.hid ((hP.out.below hq).mono hq.size)
  have hWork := Lib.hid ((hWork.out.below hq).mono hq.size)
  have hask := Lib.hid (hask.out.below hq)
  have rl := Lib.hid (rl.out.trans (hq.mono rl.out.size))
  clear hq
  have hAb2 := Lib.hid (fun g hg => (q_hask.out.own.lt g hg).2)
  refine (leap_len (n : Nat) (by omega) ((k10 : Int) + 3) (by unfold i64; omega) _).mono ?_
  rintro e w13 ⟨la, lc, rfl, hLp, hq⟩
  have hC := Lib.hid ((hC.out.below hq).mono hq.size)
  have hP := Lib.hid ((hP.out.below hq).mono hq.size)
  have hWork := Lib.hid ((hWork.out.below hq).mono hq.size)
  have hask := Lib.hid (hask.out.below hq)
  have hlv := Lib.hid (hlv.out.below hq)
  have rl := Lib.hid (rl.out.trans (hq.mono rl.out.size))
  clear hq
  have hLp := Lib.hid hLp
  have ho0 := hlv.out
  have hb0 := rl.out
  have hs0 := hLp.out
  go_wp2_with (at_builtin; refine app_row rfl _ _ rfl (v := .slice (some ⟨w11.heap.size, 0, none⟩) 1 1) (vx := .slice la 2 lc) rfl ho0 rfl hs0 ?c2 hb0 ?_)
  case c2 => simp
  clear ho0 hb0 hs0 hlv
  intro a14 k14 s14 w14 hk14 hlv hb
  have rl := hb
  clear hb
  have hC := Lib.hid ((q_hC.out.below rl.out).mono rl.out.size)
  have hP := Lib.hid ((q_hP.out.below rl.out).mono rl.out.size)
  have hWork := Lib.hid ((q_hWork.out.below rl.out).mono rl.out.size)
  clear hLp
  have hask := Lib.hid (q_hask.out.below rl.out)
  have ch := Lib.hid (ch.out.trans (rl.out.mono ch.out.size))
  have hLb := Lib.hid (fun g hg => (hlv.out.own.lt g hg).1)
  have hLeave := Lib.hid (hlv.out.row (by simp))
  have hkl : Hid (k14 = 3) := Lib.hid (by have h8 := hk14.out; first | omega | (simp at h8; omega))
  have hklI : (k14 : Int) ≤ 5000 := by have := hkl.out; omega
  have hkl0 : (0 : Int) ≤ (k14 : Int) := Int.natCast_nonneg _
  have ho0 := hask.out.lower hbA.out
  have hb0 := ch.out
  go_wp2_with (at_builtin; refine app_litG rfl _ _ rfl (w0 := w) (v := .slice a6 k6 s6) (n := 1) [jumpI 0 (1 + (k14 : Int))] rfl ho0 rfl rfl ?c1 ?c2 hb0 ?_)
  case c1 => simp; exact jumpI_wf _ _ (by omega) (by omega)
  case c2 => have := hfk.out; simp [cleanP_length]; omega
  clear ho0 hb0
  intro a15 k15 s15 w15 hk15 hask2 hbn hgr
  have hWork := Lib.hid (hWork.out.grew hgr.out (fun g h1 h2 => by have h3 := hWb.out g h1; have h4 := hAb.out g h2; omega))
  have hLeave := Lib.hid (hLeave.out.grew hgr.out (fun g h1 h2 => by have h3 := hLb.out g h1; have h4 := hAb2.out g h2; omega))
  have ch := hbn
  have hAsk := Lib.hid (hask2.out.row (by have := hfk.out; simp [cleanP_length]; omega))
  clear hgr hbn hask2
  go_wp2_with fail
  have hL0 := ProgsRow.lit (w := w15) [.slice a15 k15 s15, .slice a14 k14 s14, .slice a10 k10 s10] [([moveI n 0] ++ cleanP c ++ [jumpI 0 (1 + (k14 : Int))]), ([moveI 0 n] ++ [setI n ⟨#[49, 48, 48]⟩, jumpI n ((k10 : Int) + 3)]), ([moveI 0 n] ++ cleanP p)] rfl (by simp) (fun j u l hu hl => match j, u, l, hu, hl with | 0, _, _, hu, hl => by cases hu; cases hl; exact hAsk.out | 1, _, _, hu, hl => by cases hu; cases hl; exact hLeave.out | 2, _, _, hu, hl => by cases hu; cases hl; exact hWork.out)
  obtain ⟨w16, hW⟩ : ∃ B, w15.alloc (.cells #[.slice a15 k15 s15, .slice a14 k14 s14, .slice a10 k10 s10] 23) = B := ⟨_, rfl⟩
  rw [hW]
  have hq : Below w15.heap.size w15 w16 := by rw [← hW]; exact (Below.refl _ _).alloc (Nat.le_refl _) _
  have hL := Lib.hid (show ProgsRow w16 w16.heap.size (.slice (some ⟨w15.heap.size, 0, none⟩) 3 3) [([moveI n 0] ++ cleanP c ++ [jumpI 0 (1 + (k14 : Int))]), ([moveI 0 n] ++ [setI n ⟨#[49, 48, 48]⟩, jumpI n ((k10 : Int) + 3)]), ([moveI 0 n] ++ cleanP p)] by rw [← hW]; exact hL0)
  clear hW hL0
  have hWork := Lib.hid ((hWork.out.below hq).mono hq.size)
  have hLeave := Lib.hid ((hLeave.out.below hq).mono hq.size)
  have hAsk := Lib.hid ((hAsk.out.below hq).mono hq.size)
  have ch := Lib.hid (ch.out.trans (hq.mono ch.out.size))
  clear hq
  have q_hWork := hWork
  have q_hLeave := hLeave
  have q_hAsk := hAsk
  have rl := Lib.hid (Below.refl w16.heap.size w16)
  refine (concat_len _ _ _ hL.out (by simp [lenS, cleanP_length]; have := hfk.out; have := hgk.out; omega)).mono ?_
  rintro e w17 ⟨xa, xk, xc, rfl, hxk, ho, hq⟩
  have hWork := Lib.hid ((hWork.out.below hq).mono hq.size)
  have hLeave := Lib.hid ((hLeave.out.below hq).mono hq.size)
  have hAsk := Lib.hid ((hAsk.out.below hq).mono hq.size)
  have rl := Lib.hid (rl.out.trans (hq.mono rl.out.size))
  clear hq
  have ho := Lib.hid ho
  have hxk2 : Hid (xk = 6 + (mostN c + c.length) + (mostN p + p.length)) := Lib.hid (by have h8 := hxk.out; simp [lenS, cleanP_length] at h8; omega)
  have hxI : (xk : Int) ≤ 20000 := by have := hxk2.out; have := hfk.out; have := hgk.out; omega
  have hx0 : (0 : Int) ≤ (xk : Int) := Int.natCast_nonneg _
  go_wp2_with fail
  refine (leap_len (n : Nat) (by omega) (-(xk : Int) - 1) (by unfold i64; omega) _).mono ?_
  rintro e w18 ⟨ma, mc, rfl, hLq, hq⟩
  have hWork := Lib.hid ((hWork.out.below hq).mono hq.size)
  have hLeave := Lib.hid ((hLeave.out.below hq).mono hq.size)
  have hAsk := Lib.hid ((hAsk.out.below hq).mono hq.size)
  have ho := Lib.hid (ho.out.below hq)
  have rl := Lib.hid (rl.out.trans (hq.mono rl.out.size))
  clear hq
  have hLq := Lib.hid hLq
  have ho0 := ho.out
  have hb0 := rl.out
  have hs0 := hLq.out
  go_wp2_with (at_builtin; refine app_row rfl _ _ rfl (v := .slice xa xk xc) (vx := .slice ma 2 mc) rfl ho0 rfl hs0 ?c2 hb0 ?_)
  case c2 => have := hfk.out; have := hgk.out; simp [cleanP_length]; omega
  clear ho0 hb0 hs0 ho
  intro a19 k19 s19 w19 hk19 ho hb
  have rl := hb
  clear hb
  have hWork := Lib.hid ((q_hWork.out.below rl.out).mono rl.out.size)
  have hLeave := Lib.hid ((q_hLeave.out.below rl.out).mono rl.out.size)
  have hAsk := Lib.hid ((q_hAsk.out.below rl.out).mono rl.out.size)
  clear hLq
  have e1 : ((cleanP p).length : Int) + 4 = (k10 : Int) + 3 := by rw [cleanP_length]; have := hkw.out; omega
  have e2 : (4 : Int) = 1 + (k14 : Int) := by have := hkl.out; omega
  have e3 : (-((whileH c p).length : Int)) = -(xk : Int) - 1 := by have h8 := hxk2.out; unfold whileH; simp [cleanP_length]; omega
  have heq : whileL c p = [[moveI n 0] ++ cleanP c ++ [jumpI 0 (1 + (k14 : Int))], [moveI 0 n] ++ [setI n ⟨#[49, 48, 48]⟩, jumpI n ((k10 : Int) + 3)], [moveI 0 n] ++ cleanP p].flatten ++ [setI n ⟨#[49, 48, 48]⟩, jumpI n (-(xk : Int) - 1)] := by unfold whileL; rw [e3]; unfold whileH; simp only [hmax.out, e1]; simp [← e2]
  have hrow := Lib.hid (show InsRow _ _ (.slice a19 k19 s19) (whileL c p) by rw [heq]; have h9 := ho.out.row (by simp [cleanP_length]; have := hfk.out; have := hgk.out; omega); simpa using h9)
  clear heq e1 e2 e3
  cases hvm : validB (whileL c p)
  · have HM := Lib.hid (hrow.out)
    go_wp2_with fail
    refine (done_bad _ _ _ _ _ HM.out hvm).mono ?_
    rintro e w20 ⟨rfl, hq⟩
    have hWork := Lib.hid ((hWork.out.below hq).mono hq.size)
    have hLeave := Lib.hid ((hLeave.out.below hq).mono hq.size)
    have hAsk := Lib.hid ((hAsk.out.below hq).mono hq.size)
    have HM := Lib.hid ((HM.out.below hq).mono hq.size)
    have rl := Lib.hid (rl.out.trans (hq.mono rl.out.size))
    clear hq
    go_wp2
    have hch := ch.out.trans (rl.out.mono ch.out.size)
    refine bodyPost_ret (v := .tuple #[.slice none 0 0, .int .i64 3]) (by simp [results, Try.results23, go_sem]) rfl ?_
    rw [← HD.out, hvm, if_neg (by simp)]
    exact MadeOut.bad (by decide) rfl hch
  · have HM := Lib.hid (hrow.out)
    go_wp2_with fail
    refine (done_ok _ _ _ _ _ HM.out hvm).mono ?_
    rintro e w20 ⟨rfl, hq⟩
    have hWork := Lib.hid ((hWork.out.below hq).mono hq.size)
    have hLeave := Lib.hid ((hLeave.out.below hq).mono hq.size)
    have hAsk := Lib.hid ((hAsk.out.below hq).mono hq.size)
    have HM := Lib.hid ((HM.out.below hq).mono hq.size)
    have rl := Lib.hid (rl.out.trans (hq.mono rl.out.size))
    clear hq
    go_wp2
    have hch := ch.out.trans (rl.out.mono ch.out.size)
    refine bodyPost_ret (v := .tuple #[.slice a19 k19 s19, .int .i64 0]) (by simp [results, Try.results23, go_sem]) rfl ?_
    rw [← HD.out, hvm, if_pos rfl]
    exact MadeOut.ok rfl rfl HM.out hch

theorem bWhile_any (ca0 : Option Addr) (cn0 cc0 : Nat) (pa : Option Addr) (pn pc : Nat) (c p : List Ins) (w : World) (hhC : InsRow w w.heap.size (.slice ca0 cn0 cc0) c) (hhP : InsRow w w.heap.size (.slice pa pn pc) p) : Calls Try.prog 23 #[.slice ca0 cn0 cc0, .slice pa pn pc] w (MadeOut w (dueN [c, p] (whileL c p)) (whileL c p)) := by
  unfold dueN
  cases hv : allV [c, p] with
  | false => rw [if_pos rfl]; exact bWhile_form ca0 cn0 cc0 pa pn pc c p w hhC hhP (Lib.hid hv)
  | true =>
    rw [if_neg (by simp)]
    by_cases hr : 28 < mostR [c, p]
    · rw [if_pos hr]; exact bWhile_regs ca0 cn0 cc0 pa pn pc c p w hhC hhP (Lib.hid hv) (Lib.hid hr)
    · rw [if_neg hr]; exact bWhile_ok ca0 cn0 cc0 pa pn pc c p w hhC hhP (Lib.hid hv) _ (Lib.hid rfl) (by omega) _ (Lib.hid rfl)

end Go.Proofs.Ytdjbcmfjlfkcjaa

namespace Go.Proofs.Ytdjbcmfjlfkcjaa
open Go.RowKit

theorem rightB_mono {x : Ins} {i n i' n' : Int} (h : rightB x i n = true) (h1 : i ≤ i') (h2 : n - i ≤ n' - i') : rightB x i' n' = true := by
  unfold rightB at h ⊢
  simp only [Bool.and_eq_true] at h ⊢
  refine ⟨h.1, ?_⟩
  have h3 := h.2
  split at h3
  · rename_i e; rw [if_pos e]; exact h3
  · rename_i e
    rw [if_neg e]
    split at h3
    · rename_i e; rw [if_pos e]; exact h3
    · rename_i e
      rw [if_neg e]
      split at h3
      · rename_i e; rw [if_pos e]; exact h3
      · rename_i e
        rw [if_neg e]
        split at h3
        · rename_i e
          rw [if_pos e]
          simp only [Bool.and_eq_true, decide_eq_true_eq] at h3 ⊢
          omega
        · cases h3
theorem rightAll_iff {l : List Ins} : rightAll l = true ↔ ∀ (i : Nat) x, l[i]? = some x → rightB x i l.length = true := by
  constructor
  · intro h i x hx; exact rightAll_get h hx
  · intro h
    unfold rightAll
    rw [List.all_eq_true]
    intro i hi
    cases hx : l[i]? with
    | none => rfl
    | some x => exact h i x hx
/-- A valid program, at another place. -/
theorem rightAll_at {l : List Ins} (h : rightAll l = true) {i : Nat} {x : Ins} (hx : l[i]? = some x) {k n : Nat} (hn : k + l.length ≤ n) : rightB x ((k + i : Nat) : Int) n = true :=
  rightB_mono (rightAll_get h hx) (by omega) (by omega)
theorem rightAll_append {a b : List Ins} (ha : ∀ (i : Nat) x, a[i]? = some x → rightB x i (a ++ b).length = true) (hb : ∀ (i : Nat) x, b[i]? = some x → rightB x ((a.length + i : Nat) : Int) (a ++ b).length = true) : rightAll (a ++ b) = true := by
  rw [rightAll_iff]
  intro i x hx
  by_cases h : i < a.length
  · rw [List.getElem?_append_left h] at hx; exact ha i x hx
  · rw [List.getElem?_append_right (by omega)] at hx
    have := hb (i - a.length) x hx
    rwa [show a.length + (i - a.length) = i by omega] at this
/-- Within the limits. -/
def fitsP (l : List Ins) : Bool := decide (l.length ≤ 4000) && decide (trees l ≤ 2000000)
theorem validB_fits {l : List Ins} (h : rightAll l = true) : validB l = fitsP l := by unfold validB fitsP; rw [h, Bool.and_true]
theorem trees_append (a b : List Ins) : trees (a ++ b) = trees a + trees b := by simp [trees]

/-- A program stands within another one. -/
def Seg (P : List Ins) (k : Nat) (l : List Ins) : Prop := ∀ (i : Nat) x, l[i]? = some x → P[k + i]? = some x
theorem Seg.len {P l : List Ins} {k : Nat} (h : Seg P k l) (hl : 0 < l.length) : k + l.length ≤ P.length := by
  have := h (l.length - 1) l[l.length - 1] (List.getElem?_eq_getElem (by omega))
  have := (List.getElem?_eq_some_iff.1 this).1
  omega
theorem Seg.mid (a l b : List Ins) : Seg (a ++ l ++ b) a.length l := by
  intro i x hx
  have hi := (List.getElem?_eq_some_iff.1 hx).1
  rw [List.getElem?_append_left (by simp; omega), List.getElem?_append_right (by omega), show a.length + i - a.length = i by omega, hx]
theorem Seg.right (a l : List Ins) : Seg (a ++ l) a.length l := by have := Seg.mid a l []; rwa [List.append_nil] at this

/-- A step within. -/
theorem Seg.step {P l : List Ins} {k : Nat} (h : Seg P k l) (hv : rightAll l = true) {s : St} (hp : s.pos < l.length) :
    stepP P ⟨k + s.pos, s.regs⟩ = (stepP l s).map fun s' => ⟨k + s'.pos, s'.regs⟩ := by
  obtain ⟨x, hx⟩ : ∃ x, l[s.pos]? = some x := ⟨_, List.getElem?_eq_getElem hp⟩
  have hr := rightAll_get hv hx
  unfold stepP
  rw [hx]
  simp only [h _ _ hx]
  unfold rightB at hr
  simp only [Bool.and_eq_true] at hr
  have h3 := hr.2
  unfold stepX
  split
  · simp [Nat.add_assoc]
  · split
    · simp [Nat.add_assoc]
    · split
      · split <;> simp [Nat.add_assoc]
      · split
        · simp [Nat.add_assoc]
        · split
          · simp [Nat.add_assoc]
          · rename_i h0 h1 h2 h4 h5
            rw [if_neg h0, if_neg (by omega), if_neg h2] at h3
            split
            · simp [Nat.add_assoc]
            · split at h3
              · simp only [Bool.and_eq_true, decide_eq_true_eq] at h3
                simp only [Option.map_some, Option.some.injEq, St.mk.injEq, and_true]
                omega
              · simp at h3
/-- How a run within another one goes. -/
theorem Seg.run {P l : List Ins} {k : Nat} (h : Seg P k l) (hv : rightAll l = true) (hkl : k + l.length ≤ P.length) : ∀ (f n : Nat) (s : St), Good l.length s →
    (∀ s' m, goF l f n s = .done s' m → n ≤ m ∧ m ≤ n + f ∧ goF P f n ⟨k + s.pos, s.regs⟩ = goF P (f - (m - n)) m ⟨k + l.length, s'.regs⟩) ∧
    (∀ s' m, goF l f n s = .fuel s' m → goF P f n ⟨k + s.pos, s.regs⟩ = .fuel ⟨k + s'.pos, s'.regs⟩ m) ∧
    (goF l f n s = .big → goF P f n ⟨k + s.pos, s.regs⟩ = .big) := by
  intro f
  induction f with
  | zero =>
    intro n s hg
    by_cases hp : s.pos = l.length
    · rw [goF_done hp]
      refine ⟨?_, ?_, ?_⟩
      · intro s' m e; cases e; exact ⟨Nat.le_refl _, by omega, by rw [hp, Nat.sub_self]⟩
      · intro s' m e; cases e
      · intro e; cases e
    · rw [goF_zero hp]
      have hP : k + s.pos ≠ P.length := by have := hg.1; omega
      refine ⟨?_, ?_, ?_⟩
      · intro s' m e; cases e
      · intro s' m e; cases e; exact goF_zero hP
      · intro e; cases e
  | succ f ih =>
    intro n s hg
    by_cases hp : s.pos = l.length
    · rw [goF_done hp]
      refine ⟨?_, ?_, ?_⟩
      · intro s' m e; cases e; exact ⟨Nat.le_refl _, by omega, by rw [hp, Nat.sub_self]; rfl⟩
      · intro s' m e; cases e
      · intro e; cases e
    · have hpl : s.pos < l.length := by have := hg.1; omega
      have hP : k + s.pos ≠ P.length := by omega
      have hst := h.step hv hpl
      cases hs : stepP l s with
      | none =>
        rw [goF_big hp hs]
        rw [hs] at hst
        refine ⟨?_, ?_, ?_⟩
        · intro s' m e; cases e
        · intro s' m e; cases e
        · intro _; exact goF_big hP hst
      | some s1 =>
        rw [hs] at hst
        rw [goF_step hp hs, goF_step hP hst]
        obtain ⟨i1, i2, i3⟩ := ih (n + 1) s1 (hg.step hv hs)
        refine ⟨?_, i2, i3⟩
        intro s' m e
        obtain ⟨j1, j2, j3⟩ := i1 s' m e
        exact ⟨by omega, by omega, by rw [j3, show f - (m - (n + 1)) = f + 1 - (m - n) by omega]⟩

end Go.Proofs.Ytdjbcmfjlfkcjaa

namespace Go.Proofs.Ytdjbcmfjlfkcjaa
open Go.RowKit

theorem fits4_ok (v : Value) (l : List Ins) (w : World) (hl : InsRow w w.heap.size v l) :
    Calls Try.prog 92 #[v] w fun e w' => e = .returned (.bool (fitsP l)) ∧ Below w.heap.size w w' := by
  have kt := trees_any v l w _ hl
  obtain ⟨a, c, rfl⟩ := hl.len
  obtain ⟨n, hn⟩ : ∃ n, l.length = n := ⟨_, rfl⟩
  obtain ⟨t, ht⟩ : ∃ t, trees l = t := ⟨_, rfl⟩
  unfold fitsP
  rw [hn, ht]
  rw [hn, ht] at kt
  clear hn ht hl
  by_cases h1 : n ≤ 4000
  · have h1I : (n : Int) ≤ 4000 := by omega
    have kt := kt h1
    by_cases h2 : t ≤ 2000000
    · have h2I : (t : Int) ≤ 2000000 := by omega
      go_enter Try.func92, Try.ntmps92
      go_wp2_with fail
      refine kt.mono ?_
      rintro e w1 ⟨rfl, rfl⟩
      go_wp2
      go_ret
      exact ⟨by simp [h1, h2], Below.refl _ _⟩
    · have h2I : ¬ (t : Int) ≤ 2000000 := by omega
      go_enter Try.func92, Try.ntmps92
      go_wp2_with fail
      refine kt.mono ?_
      rintro e w1 ⟨rfl, rfl⟩
      go_wp2
      go_ret
      exact ⟨by simp [h1]; omega, Below.refl _ _⟩
  · have h1I : ¬ (n : Int) ≤ 4000 := by omega
    go_enter Try.func92, Try.ntmps92
    go_wp2
    go_ret
    exact ⟨by simp, Below.refl _ _⟩

end Go.Proofs.Ytdjbcmfjlfkcjaa

namespace Go.Proofs.Ytdjbcmfjlfkcjaa
open Go.RowKit

def tailI : Ins := ⟨4, 0, 0, 0, ⟨#[]⟩⟩
theorem tailI_wf : tailI.wf := wf_lit _ _ _ _ _ (by unfold i64; decide) (by unfold i64; decide) (by unfold i64; decide) (by unfold i64; decide) (by decide)
end Go.Proofs.Ytdjbcmfjlfkcjaa

namespace Go.Proofs.Ytdjbcmfjlfkcjaa
open Go.RowKit

theorem el_progs : ElemT Try.prog 58 23 (.slice none 0 0) 1 24 := ⟨Try.underlying58, by kernel_rfl, rfl, by decide⟩

set_option maxHeartbeats 1000000 in
theorem twin_own (v : Value) (l : List Ins) (w : World) (hl : InsRow w w.heap.size v l) :
    Calls Try.prog 55 #[v] w fun e w' => ∃ a c, e = .returned (.slice a l.length c) ∧ OwnI w' w.heap.size (.slice a l.length c) l ∧ Below w.heap.size w w' := by
  have hn := hl.2.1
  have hwf := hl.1
  have hs := hl.src
  obtain ⟨n, hn'⟩ : ∃ n, l.length = n := ⟨_, rfl⟩
  rw [hn'] at hn hs
  have HN := Lib.hid hn'; clear hn'
  have HW := Lib.hid hwf; clear hwf
  obtain ⟨ao, cap, rfl⟩ := hl.len
  rw [HN.out] at hl hs ⊢
  have hown : (w.alloc (.cells #[] 75)).ownsRow w.heap.size 75 5 (.slice (some ⟨w.heap.size, 0, none⟩) 0 0) 0 [] := World.ownsRow_lit w #[] 0 (Nat.le_refl _) (by decide) rfl
  have hs2 : Src (w.alloc (.cells #[] 75)) (.slice ao n cap) n 5 (inscells l) := by
    have := (hl.below ((Below.refl _ w).alloc (Nat.le_refl _) (.cells #[] 75))).src
    rwa [HN.out] at this
  have hb : Below w.heap.size w (w.alloc (.cells #[] 75)) := (Below.refl _ _).alloc (Nat.le_refl _) _
  go_enter Try.func55, Try.ntmps55
  go_wp2_with (at_builtin; refine app_src el_ins (vx := .slice ao n cap) rfl _ _ rfl rfl hown rfl hs2 (inscells_one l) ?c2 ?c3 (by simp) hb (Nat.le_refl _) ?_)
  case c2 => omega
  case c3 => unfold maxLen; omega
  intro v' w' hown' hb' hg
  have hown2 : OwnI w' w.heap.size v' l := ⟨by rw [HN.out]; simpa using hown', HW.out⟩
  obtain ⟨a2, c2, rfl⟩ := own_len hown'
  clear hown hs hs2 hb hown' hg
  go_wp2
  refine bodyPost_ret (v := .slice a2 n c2) (by simp [results, Try.results55, go_sem]) rfl ?_
  exact ⟨_, _, rfl, hown2, hb'⟩

/-- A row of one's own of programs, each in a block besides. -/
def OwnP (w : World) (B : Nat) (v : Value) (ls : List (List Ins)) : Prop :=
  ∃ us, w.ownsRow B 23 1 v ls.length us ∧ ∀ (j : Nat) (u : Value) (l : List Ins), us[j]? = some u → ls[j]? = some l → InsRow w w.heap.size u l ∧ ∀ g, u.ownBlock = some g → g < w.heap.size ∧ v.ownBlock ≠ some g
theorem OwnP.nil (w : World) (B : Nat) : OwnP w B (.slice none 0 0) [] := ⟨[], World.ownsRow_nil _ _ _ _, fun j u l h => by simp at h⟩
theorem OwnP.lt {w : World} {B : Nat} {v : Value} {ls : List (List Ins)} (h : OwnP w B v ls) {g : Nat} (hg : v.ownBlock = some g) : B ≤ g ∧ g < w.heap.size := by
  obtain ⟨us, h1, _⟩ := h
  rcases h1.2 with ⟨rfl, _⟩ | ⟨k, cap, cur, rfl, hb, hc, _⟩
  · simp [Value.ownBlock] at hg
  · simp only [Value.ownBlock, Option.some.injEq] at hg; subst hg; exact ⟨hb, (Array.getElem?_eq_some_iff.1 hc).1⟩
theorem OwnP.below {w w' : World} {B : Nat} {v : Value} {ls : List (List Ins)} (h : OwnP w B v ls) (hb : Below w.heap.size w w') : OwnP w' B v ls := by
  obtain ⟨us, h1, h2⟩ := h
  refine ⟨us, own_below h1 hb, fun j u l hu hl => ?_⟩
  obtain ⟨h3, h4⟩ := h2 j u l hu hl
  exact ⟨(h3.below hb).mono hb.size, fun g hg => ⟨Nat.lt_of_lt_of_le (h4 g hg).1 hb.size, (h4 g hg).2⟩⟩
theorem OwnP.len {w : World} {B : Nat} {v : Value} {ls : List (List Ins)} (h : OwnP w B v ls) : ∃ a c, v = .slice a ls.length c := by
  obtain ⟨us, h1, _⟩ := h; exact own_len h1
theorem OwnP.row {w : World} {B : Nat} {v : Value} {ls : List (List Ins)} (h : OwnP w B v ls) (hn : ls.length ≤ 5864062014805) : ProgsRow w w.heap.size v ls := by
  obtain ⟨us, h1, h2⟩ := h
  have hlen : us.length = ls.length := by have := h1.1; omega
  refine ⟨hn, ?_⟩
  rcases h1.2 with ⟨rfl, h0⟩ | ⟨g, cap, cur, rfl, hb, hg, hnc, hcm, hcs, htake⟩
  · exact .inl ⟨List.length_eq_zero_iff.1 h0, .inl rfl⟩
  · refine .inr ⟨g, 0, cap, rfl, (Array.getElem?_eq_some_iff.1 hg).1, fun j l hl => ?_⟩
    have hlt := (List.getElem?_eq_some_iff.1 hl).1
    obtain ⟨u, hu⟩ : ∃ u, us[j]? = some u := ⟨_, List.getElem?_eq_getElem (by omega)⟩
    refine ⟨u, ?_, (h2 j u l hu hl).1⟩
    rw [Nat.zero_add, World.ownsRow.cellAt h1 j (by omega), hu]
theorem OwnI.block {w : World} {B : Nat} {v : Value} {l : List Ins} (h : OwnI w B v l) {g : Nat} (hg : v.ownBlock = some g) : B ≤ g ∧ g < w.heap.size := by
  rcases h.own.2 with ⟨rfl, _⟩ | ⟨k, cap, cur, rfl, hb, hc, _⟩
  · simp [Value.ownBlock] at hg
  · simp only [Value.ownBlock, Option.some.injEq] at hg; subst hg; exact ⟨hb, (Array.getElem?_eq_some_iff.1 hc).1⟩
theorem InsRow.far {w w' : World} {vx : Value} {l : List Ins} (h : InsRow w w.heap.size vx l) (hs : w.heap.size ≤ w'.heap.size) (hold : ∀ g, vx.ownBlock = some g → g < w.heap.size → w'.heap[g]? = w.heap[g]?) : InsRow w' w'.heap.size vx l := by
  refine ⟨h.1, h.2.1, ?_⟩
  rcases h.2.2 with h3 | ⟨g, off, cap, rfl, hgl, hc⟩
  · exact .inl h3
  · exact .inr ⟨g, off, cap, rfl, by omega, fun j x hj k u hk => (World.cell?_of_block (hold g rfl hgl)).trans (hc j x hj k u hk)⟩

/-- append of a program to such a row. -/
theorem app_prog {ops : Array Oper} {rest : List Oper} {o : Oper} {a : Act} {Q : Exit → Act → World → Prop} (hgd : o.guard = none) (s x : Operand)
    (ho : o.op = .call { callee := .builtin .append, args := #[s, x], argTypes := #[58, 58] }) {w w0 : World} {v u : Value} {ls : List (List Ins)} {l : List Ins}
    (hs : a.eval s = v) (hown : OwnP w w0.heap.size v ls) (hx : a.eval x = .slice (some ⟨w.heap.size, 0, none⟩) 1 1) (hu : InsRow w w.heap.size u l) (hu1 : u.oneCell' = true) (hue : ∀ g, u.ownBlock = some g → g < w.heap.size ∧ v.ownBlock ≠ some g) (hlen : ls.length + 1 ≤ 5864062014805) (hb : Below w0.heap.size w0 w)
    (h : ∀ a' k c' w', Hid (k = ls.length + 1) → Hid (OwnP w' w0.heap.size (.slice a' k c') (ls ++ [l])) → Hid (Below w0.heap.size w0 w') → wpList Try.prog ops Q rest (a.put o.dst (.slice a' k c')) w') :
    wpList Try.prog ops Q (o :: rest) a (w.alloc (.cells #[u] 23)) := by
  have hlt := fun (g : Nat) (hg : v.ownBlock = some g) => hown.lt hg
  obtain ⟨us, h1, h2⟩ := hown
  have hus : us.length = ls.length := by have := h1.1; omega
  obtain ⟨i, hi, hz, hsize, hbytes⟩ := info_parts el_progs.hi
  refine wpList_append_lies _ hgd s x _ ho w0.heap.size _ i _ 1 24 el_progs.ht hi hz hsize hbytes el_progs.hzs el_progs.hsz v ls.length us hs (h1.alloc _) ⟨w.heap.size, 0, none⟩ 1 1 [u] hx rfl ?_ ?_ (by decide) (by unfold maxLen; omega) (by omega) (by have := hb.size; simp; omega) (w.heap.size + 1) (by simp) ?_
  · intro j y hy
    rw [Addr.add_lit]
    unfold World.cell?
    rw [heap_alloc_new w _]
    simpa using hy
  · intro y hy; rw [List.mem_singleton.1 hy]; exact hu1
  · intro g cap w' ho' hg hblk hgl
    have hsz : w.heap.size < w'.heap.size := (grownBy_alloc_trans hg).1
    have hold := (grownBy_alloc_trans hg).2
    refine h _ _ _ w' (Lib.hid rfl) (Lib.hid ⟨us ++ [u], by rw [List.length_append]; exact ho', ?_⟩) (Lib.hid ((hb.alloc hb.size _).grown hg (by have := hb.size; simp; omega) (fun k hk => (hlt _ hk).1)))
    have hnew : ∀ (y : Value) (m : List Ins), InsRow w w.heap.size y m → (∀ g', y.ownBlock = some g' → g' < w.heap.size ∧ v.ownBlock ≠ some g') → InsRow w' w'.heap.size y m ∧ ∀ g', y.ownBlock = some g' → g' < w'.heap.size ∧ Value.ownBlock (.slice (some ⟨g, 0, none⟩) (ls.length + 1) cap) ≠ some g' := by
      intro y m hy hye
      refine ⟨hy.far (by omega) fun g' hg' hgl' => hold g' hgl' (fun e => (hye g' hg').2 e.symm), fun g' hg' => ⟨by have := (hye g' hg').1; omega, fun e => ?_⟩⟩
      simp only [Value.ownBlock, Option.some.injEq] at e
      subst e
      rcases hblk with h3 | h3
      · exact (hye g hg').2 h3
      · have := (hye g hg').1; omega
    intro j y m hy hm
    rw [List.getElem?_append] at hy hm
    by_cases hj : j < ls.length
    · rw [if_pos (by omega)] at hy
      rw [if_pos hj] at hm
      exact hnew y m (h2 j y m hy hm).1 (h2 j y m hy hm).2
    · rw [if_neg (by omega)] at hy
      rw [if_neg hj] at hm
      have hy1 := List.mem_singleton.1 (List.mem_of_getElem? hy)
      have hm1 := List.mem_singleton.1 (List.mem_of_getElem? hm)
      subst hy1; subst hm1
      exact hnew y m hu hue

end Go.Proofs.Ytdjbcmfjlfkcjaa

namespace Go.Proofs.Ytdjbcmfjlfkcjaa
open Go.RowKit

/-- A tree as a string, or the empty string. -/
def OT : Option Tr → ByteArray | none => ⟨#[]⟩ | some t => TS t
def vN : Option Tr → Nat | some t => if t.isNum then t.pairs else 0 | none => 0
def vB : Option Tr → Bool | some t => t.isNum | none => false
def pH : Option Tr → Option Tr | some (.pair a _) => some a | _ => none
def pT : Option Tr → Option Tr | some (.pair _ b) => some b | _ => none
def pB : Option Tr → Bool | some .nil => false | _ => true
def SmallO (o : Option Tr) : Prop := ∀ t, o = some t → t.size ≤ 2000000
theorem SmallO.hd {o : Option Tr} (h : SmallO o) : SmallO (pH o) := by
  intro t ht
  match o, ht with
  | some (.pair a b), ht =>
    injection ht with ht
    subst ht
    have := h _ rfl
    simp only [Tr.size] at this
    omega
theorem SmallO.tl {o : Option Tr} (h : SmallO o) : SmallO (pT o) := by
  intro t ht
  match o, ht with
  | some (.pair a b), ht =>
    injection ht with ht
    subst ht
    have := h _ rfl
    simp only [Tr.size] at this
    omega
theorem isTree_none : isTree ⟨#[]⟩ = false := by
  rw [Bool.eq_false_iff]
  intro h
  obtain ⟨t, h1, _⟩ := isTree_get h
  have h2 : (⟨#[]⟩ : ByteArray).size = (TS t).size := by rw [← h1]
  rw [TS_size, t.size_pairs] at h2
  have h3 : (⟨#[]⟩ : ByteArray).size = 0 := rfl
  omega
theorem cvalue_go (s : ByteArray) (n e : Int) (b : Bool) (hb : b = (e == 0)) (kv : ∀ w, Calls Try.prog 145 #[.string s] w fun x w' => x = .returned (.tuple #[.int .i64 n, .int .i64 e]) ∧ Below w.heap.size w w') (w : World) :
    Calls Try.prog 117 #[.string s] w fun x w' => x = .returned (.tuple #[.int .i64 n, .bool b]) ∧ Below w.heap.size w w' := by
  have KV := Lib.hid kv
  clear kv
  subst hb
  go_enter Try.func117, Try.ntmps117
  go_wp2_with fail
  refine (KV.out _).mono ?_
  rintro x w1 ⟨rfl, hb⟩
  go_wp2
  go_ret2
  exact ⟨rfl, hb⟩
theorem cvalue_any (o : Option Tr) (h : SmallO o) (w : World) :
    Calls Try.prog 117 #[.string (OT o)] w fun x w' => x = .returned (.tuple #[.int .i64 (vN o), .bool (vB o)]) ∧ Below w.heap.size w w' := by
  cases o with
  | none => exact cvalue_go _ 0 1 false rfl (fun w => value_bad ⟨#[]⟩ (by decide) isTree_none w) w
  | some t =>
    have ht := h t rfl
    cases hn : t.isNum with
    | true =>
      have := cvalue_go (TS t) t.pairs 0 true rfl (fun w => value_num t ht hn w) w
      simpa [OT, vN, vB, hn] using this
    | false =>
      have := cvalue_go (TS t) 0 4 false rfl (fun w => value_none t ht hn w) w
      simpa [OT, vN, vB, hn] using this
theorem cpair_go (s a b : ByteArray) (e f : Int) (hs : (s.toList == [48]) = false)
    (kh : ∀ w, Calls Try.prog 143 #[.string s] w fun x w' => x = .returned (.tuple #[.string a, .int .i64 e]) ∧ Below w.heap.size w w')
    (kt : ∀ w, Calls Try.prog 144 #[.string s] w fun x w' => x = .returned (.tuple #[.string b, .int .i64 f]) ∧ Below w.heap.size w w') (w : World) :
    Calls Try.prog 116 #[.string s] w fun x w' => x = .returned (.tuple #[.string a, .string b, .bool true]) ∧ Below w.heap.size w w' := by
  have KH := Lib.hid kh
  have KT := Lib.hid kt
  clear kh kt
  go_enter Try.func116, Try.ntmps116
  go_wp2_with fail
  refine (KH.out _).mono ?_
  rintro x w1 ⟨rfl, hb1⟩
  go_wp2_with fail
  refine (KT.out _).mono ?_
  rintro x w2 ⟨rfl, hb2⟩
  have HB := Lib.hid (hb1.trans (hb2.mono hb1.size))
  clear hb1 hb2
  go_wp2
  refine bodyPost_ret (v := .tuple #[.string a, .string b, .bool true]) (by simp [results, Try.results116, go_sem]) rfl ?_
  exact ⟨rfl, HB.out⟩
theorem cpair_nil (w : World) :
    Calls Try.prog 116 #[.string ⟨#[48]⟩] w fun x w' => x = .returned (.tuple #[.string ⟨#[]⟩, .string ⟨#[]⟩, .bool false]) ∧ Below w.heap.size w w' := by
  go_enter Try.func116, Try.ntmps116
  go_wp2
  refine bodyPost_ret (v := .tuple #[.string ⟨#[]⟩, .string ⟨#[]⟩, .bool false]) (by simp [results, Try.results116, go_sem]) rfl ?_
  exact ⟨rfl, Below.refl _ _⟩
theorem TS_nil : TS .nil = ⟨#[48]⟩ := rfl
theorem pair_not0 (a b : Tr) : ((TS (.pair a b)).toList == [48]) = false := by
  rw [ByteArray.toList_eq, TS_list]
  rfl
theorem cpair_any (o : Option Tr) (h : SmallO o) (w : World) :
    Calls Try.prog 116 #[.string (OT o)] w fun x w' => x = .returned (.tuple #[.string (OT (pH o)), .string (OT (pT o)), .bool (pB o)]) ∧ Below w.heap.size w w' := by
  match o, h with
  | none, h => exact cpair_go ⟨#[]⟩ ⟨#[]⟩ ⟨#[]⟩ 1 1 (by rw [ByteArray.toList_eq]; rfl) (fun w => head_bad _ (by decide) isTree_none w) (fun w => tail_bad _ (by decide) isTree_none w) w
  | some .nil, h => exact cpair_nil w
  | some (.pair a b), h =>
    have hs := h _ rfl
    exact cpair_go (TS (.pair a b)) (TS a) (TS b) 0 0 (pair_not0 a b) (fun w => head_ok (.pair a b) hs w) (fun w => tail_ok (.pair a b) hs w) w
end Go.Proofs.Ytdjbcmfjlfkcjaa

namespace Go.Proofs.Ytdjbcmfjlfkcjaa
open Go.RowKit

theorem step_src {P : Program} {tS tE : Nat} {z : Value} {sz by_ : Nat} (E : ElemT P tS tE z sz by_) {ops : Array Oper} {o : Oper} {a : Act} {K : Act → World → Prop} {Q : Exit → Act → World → Prop} {EE : Prop}
    (hgd : o.guard = none) (s x : Operand) (ho : o.op = .call { callee := .builtin .append, args := #[s, x], argTypes := #[tS, tS] }) {w : World} {base : Nat} {v vx : Value} {n m : Nat} {xs news : List Value}
    (hs : a.eval s = v) (hown : w.ownsRow base tE sz v n xs) (hx : a.eval x = vx) (hsrc : Src w vx m sz news)
    (h1 : ∀ u ∈ news, u.oneCell' = true) (hby : (n + m) * by_ ≤ 140737488355328) (h63 : n + m ≤ maxLen) (hbase : base ≤ w.heap.size) {B : Nat} {w0 : World} (hb : Below B w0 w) (hB : B ≤ base)
    (h : ∀ a' c' w', w'.ownsRow base tE sz (.slice a' (n + m) c') (n + m) (xs ++ news) → Below B w0 w' → w.grownBy w' v.ownBlock → K (a.put o.dst (.slice a' (n + m) c')) w') :
    if Region.wanted o (yielded ops a.tmps) = true then Oper.wp P o a w K Q else EE := by
  obtain ⟨i, hi, hz, hsize, hbytes⟩ := info_parts E.hi
  have hlt := hown.lt
  have hw : Region.wanted o (yielded ops a.tmps) = true := by simp [Region.wanted, hgd]
  rw [if_pos hw]
  have fin : ∀ v' w', w'.ownsRow base tE sz v' (n + m) (xs ++ news) → Below B w0 w' → w.grownBy w' v.ownBlock → K (a.put o.dst v') w' := by
    intro v' w' h2 h3 h4
    have hl : ∃ a' c', v' = .slice a' (n + m) c' := by
      rcases h2.2 with ⟨e1, e2⟩ | ⟨g, cap, cur, e, _⟩
      · refine ⟨none, 0, ?_⟩
        rw [e1, e2]
      · exact ⟨_, _, e⟩
    obtain ⟨a', c', rfl⟩ := hl
    exact h a' c' w' h2 h3 h4
  obtain ⟨hl, hc⟩ := hsrc
  rcases hc with ⟨rfl, rfl⟩ | ⟨ad, c, rfl, hcells⟩
  · have hnews : news = [] := List.eq_nil_of_length_eq_zero (by simpa using hl)
    subst hnews
    have hrun := run_append_owned_none (P := P) w base tS o.type tE i sz E.ht hi v n xs hown
    unfold Oper.wp execOp
    simp only [ho, resolve, invoke, builtin, Sem.run_bind, Sem.run_pure, Result.andThen_ok, List.map_toArray, List.map_cons, List.map_nil, hs, hx, hrun]
    exact fin v w (by simpa using hown) hb ⟨rfl, rfl, rfl, Nat.le_refl _, fun _ _ _ => rfl⟩
  · obtain ⟨v', w', hr, h2, h3, _⟩ := run_append_own (P := P) w base tS o.type tE i z sz by_ E.ht hi hz hsize hbytes E.hzs E.hsz v n xs hown ad m c news hl hcells h1 h63 hby hbase
    unfold Oper.wp execOp
    simp only [ho, resolve, invoke, builtin, Sem.run_bind, Sem.run_pure, Result.andThen_ok, List.map_toArray, List.map_cons, List.map_nil, hs, hx, hr]
    exact fin v' w' h2 (hb.grown h3 (by omega) (fun k hk => by have := (hlt k hk).1; omega)) h3

theorem own_empty (w : World) (e sz : Nat) : (w.alloc (.cells #[] e)).ownsRow w.heap.size e sz (.slice (some ⟨w.heap.size, 0, none⟩) 0 0) 0 [] := World.ownsRow_lit w #[] 0 (Nat.le_refl _) (by decide) (by simp)

end Go.Proofs.Ytdjbcmfjlfkcjaa

namespace Go.Proofs.Ytdjbcmfjlfkcjaa
open Go.RowKit

/-- The first k registers are read. -/
def regsK (L : List ByteArray) (k : Nat) : List Tr := (L.take k).map toTr ++ List.replicate (32 - k) .nil
theorem regsK_length (L : List ByteArray) (hL : L.length = 32) (k : Nat) (hk : k ≤ 32) : (regsK L k).length = 32 := by unfold regsK; simp; omega
theorem regsK_succ (L : List ByteArray) (k : Nat) (hk : k < 32) {s : ByteArray} (hs : L[k]? = some s) : (regsK L k).set k (toTr s) = regsK L (k + 1) := by
  unfold regsK
  have hkl : k < L.length := (List.getElem?_eq_some_iff.1 hs).1
  have h1 : ((L.take k).map toTr).length = k := by simp; omega
  rw [take_snoc' _ _ _ hs, List.map_append, List.set_append_right _ _ (by omega), h1, Nat.sub_self, show 32 - k = (32 - (k + 1)) + 1 by omega, List.replicate_succ, List.set_cons_zero, List.append_assoc]
  rfl
theorem regsK_all (L : List ByteArray) (hL : L.length = 32) : regsK L 32 = L.map toTr := by unfold regsK; rw [List.take_of_length_le (by omega)]; simp
theorem regsK_get (L : List ByteArray) (hL : L.length = 32) (k : Nat) (hk : k < 32) : (regsK L k)[k]? = some .nil := by
  unfold regsK
  have h1 : ((L.take k).map toTr).length = k := by simp; omega
  rw [List.getElem?_append_right (by omega), h1, Nat.sub_self, show 32 - k = (32 - (k + 1)) + 1 by omega, List.replicate_succ]
  rfl
theorem regsK_zero (L : List ByteArray) : regsK L 0 = .nil :: List.replicate 31 .nil := rfl

end Go.Proofs.Ytdjbcmfjlfkcjaa

namespace Go.Proofs.Ytdjbcmfjlfkcjaa
open Go.RowKit

theorem box2 {W : World} {b T : Nat} {x y : Value} (h : W.heap[b]? = some (.cells #[x, y] T (0, 0))) : W.cell? ⟨b, 0, none⟩ = some x ∧ W.cell? ⟨b, 1, none⟩ = some y := ⟨(block_cells h).1 0, (block_cells h).1 1⟩
theorem box2_keep {W : World} {b T : Nat} {x y : Value} (h : W.heap[b]? = some (.cells #[x, y] T (0, 0))) : ∀ w', Below W.heap.size W w' → w'.cell? ⟨b, 0, none⟩ = some x ∧ w'.cell? ⟨b, 1, none⟩ = some y := fun _ hb => box2 (blk_lift hb h)
theorem blk_lift_drew {A B : World} {b : Nat} {o : Obj} (hb : Below A.drew.heap.size A.drew B) (h : A.heap[b]? = some o) : B.heap[b]? = some o := blk_lift (A := A.drew) hb h
theorem box4 {W : World} {b T : Nat} {x y : Value} (h : W.heap[b]? = some (.cells #[x, y] T (0, 0))) : W.cell? ⟨b, 0, none⟩ = some x ∧ W.cell? ⟨b, 1, none⟩ = some y ∧ W.frozen? ⟨b, 0, none⟩ = false ∧ W.frozen? ⟨b, 1, none⟩ = false := ⟨(block_cells h).1 0, (block_cells h).1 1, (block_cells h).2 0, (block_cells h).2 1⟩
/-- A new box of two cells. -/
theorem box2_new (W : World) (T : Nat) (x y : Value) : (W.alloc (.cells #[x, y] T)).heap[W.heap.size]? = some (.cells #[x, y] T (0, 0)) := heap_alloc_new W _
theorem alloc_below (W : World) (o : Obj) : Below W.heap.size W (W.alloc o) := (Below.refl _ _).alloc (Nat.le_refl _) _

theorem not_cell {A : World} {b j T : Nat} {x y v : Value} (h : A.heap[b]? = some (.cells #[x, y] T (0, 0))) (hj : 2 ≤ j) : A.cell? ⟨b, j, none⟩ ≠ some v := by
  rw [(block_cells h).1]
  match j, hj with
  | j + 2, _ => simp
theorem InsRow.els2 {A B : World} {b : Nat} {v : Value} {l : List Ins} (h : InsRow A A.heap.size v l) (hE : Els b A B) (hb : A.heap[b]? = none ∨ ∃ x y T, A.heap[b]? = some (.cells #[x, y] T (0, 0))) : InsRow B B.heap.size v l := by
  obtain ⟨h1, h2, h3⟩ := h
  refine ⟨h1, h2, ?_⟩
  rcases h3 with h3 | ⟨g, off, cap, hv, hg, hc⟩
  · exact .inl h3
  · refine .inr ⟨g, off, cap, hv, by have := hE.size; omega, fun j x hj k u hk => ?_⟩
    have hne : g ≠ b := by
      rintro rfl
      rcases hb with hb | ⟨x1, y1, T, hb⟩
      · rw [Array.getElem?_eq_none_iff] at hb; omega
      · exact not_cell hb (by omega) (hc j x hj 4 _ rfl)
    exact (World.cell?_of_block (hE.block g hg hne)).trans (hc j x hj k u hk)
theorem StrRow.els2 {A B : World} {b : Nat} {v : Value} {l : List ByteArray} (h : StrRow A A.heap.size v l) (hE : Els b A B) (hb : A.heap[b]? = none ∨ ∃ x y T, A.heap[b]? = some (.cells #[x, y] T (0, 0)) ∧ (∀ s, x ≠ .string s) ∧ ∀ s, y ≠ .string s) : StrRow B B.heap.size v l := by
  obtain ⟨h1, h2, h3⟩ := h
  refine ⟨h1, h2, ?_⟩
  rcases h3 with h3 | ⟨g, off, cap, hv, hg, hc⟩
  · exact .inl h3
  · refine .inr ⟨g, off, cap, hv, by have := hE.size; omega, fun j s hj => ?_⟩
    have hne : g ≠ b := by
      rintro rfl
      have hcj := hc j s hj
      rcases hb with hb | ⟨x1, y1, T, hb, hx, hy⟩
      · rw [Array.getElem?_eq_none_iff] at hb; omega
      · rw [(block_cells hb).1] at hcj
        generalize off + j = i at hcj
        match i with
        | 0 => simp at hcj; exact hx s hcj
        | 1 => simp at hcj; exact hy s hcj
        | i + 2 => simp at hcj
    exact (World.cell?_of_block (hE.block g hg hne)).trans (hc j s hj)
/-- A box of two cells behind a region: newly made there, or made before and written. -/
structure BoxFin (W0 A B : World) (b T : Nat) (x y : Value) : Prop where
  blk : B.heap[b]? = some (.cells #[x, y] T (0, 0))
  els : Els b A B
  was : A.heap[b]? = none ∨ ∃ x y T, A.heap[b]? = some (.cells #[x, y] T (0, 0)) ∧ (∀ s, x ≠ .string s) ∧ ∀ s, y ≠ .string s
  le : W0.heap.size ≤ b
theorem BoxFin.alloc {W0 A : World} (T : Nat) (x y : Value) (h : W0.heap.size ≤ A.heap.size) : BoxFin W0 A (A.alloc (.cells #[x, y] T)) A.heap.size T x y :=
  ⟨heap_alloc_new A _, ⟨rfl, rfl, rfl, by simp, fun k hk _ => Below.heap_alloc _ _ _ hk⟩, .inl (by simp), h⟩
theorem BoxFin.set {W0 A : World} {b T : Nat} {x0 y0 : Value} (x y : Value) (h : A.heap[b]? = some (.cells #[x0, y0] T (0, 0))) (hx : ∀ s, x0 ≠ .string s) (hy : ∀ s, y0 ≠ .string s) (hb : W0.heap.size ≤ b) : BoxFin W0 A ((A.setCell ⟨b, 0, none⟩ x).setCell ⟨b, 1, none⟩ y) b T x y := by
  have h1 := set_blk h 0 x
  have h2 := set_blk h1 1 y
  simp only [List.setIfInBounds_toArray, List.set_cons_zero, List.set_cons_succ] at h2
  exact ⟨h2, ((Els.refl b A).set 0 x).set 1 y, .inr ⟨_, _, _, h, hx, hy⟩, hb⟩
theorem BoxFin.ins {W0 A B : World} {b T : Nat} {x y : Value} (h : BoxFin W0 A B b T x y) {v : Value} {l : List Ins} (hr : InsRow A A.heap.size v l) : InsRow B B.heap.size v l := hr.els2 h.els (h.was.elim .inl fun ⟨x, y, T, e, _⟩ => .inr ⟨x, y, T, e⟩)
theorem BoxFin.str {W0 A B : World} {b T : Nat} {x y : Value} (h : BoxFin W0 A B b T x y) {v : Value} {l : List ByteArray} (hr : StrRow A A.heap.size v l) : StrRow B B.heap.size v l := hr.els2 h.els h.was
theorem BoxFin.below {W0 A B : World} {b T : Nat} {x y : Value} (h : BoxFin W0 A B b T x y) (hb : Below W0.heap.size W0 A) : Below W0.heap.size W0 B := hb.trans (h.els.below h.le hb.size)

theorem stateOk_open {w : World} {s : St} (h32 : s.regs.length = 32) {e : Ending} {w' : World} (h : StateOk w s e w') : ∃ a c, e = .returned (.tuple #[.agg #[.int .i64 s.pos, .slice a 32 c], .int .i64 0]) ∧ StrRow w' w'.heap.size (.slice a 32 c) (s.regs.map TS) ∧ Below w.heap.size w w' := by
  obtain ⟨v, h1, h2, h3⟩ := h
  obtain ⟨a, c, rfl⟩ := h2.len
  rw [List.length_map, h32] at h1 h2
  exact ⟨a, c, h1, h2, h3⟩
theorem fitsB_iff {n : Int} {len : Nat} {L : List ByteArray} (h : fitsB n len L = true) : 0 ≤ n ∧ n ≤ len ∧ L.length = 32 ∧ L.all isTree = true := by
  unfold fitsB at h
  simp only [Bool.and_eq_true, decide_eq_true_eq] at h
  exact ⟨h.1.1.1, h.1.1.2, h.1.2, h.2⟩
theorem BoxFin.blk' {W0 A B : World} {b T : Nat} {x y : Value} (h : BoxFin W0 A B b T x y) {k : Nat} {o : Obj} (hk : k < W0.heap.size) (ho : A.heap[k]? = some o) : B.heap[k]? = some o := (h.els.block k (Array.getElem?_eq_some_iff.1 ho).1 (by have := h.le; omega)).trans ho
@[elab_as_elim] theorem BoxFin.elimW {W0 A : World} {T : Nat} {x y : Value} {motive : World → Prop} {B : World} {b : Nat} (h : BoxFin W0 A B b T x y) (k : ∀ B, Hid (BoxFin W0 A B b T x y) → motive B) : motive B := k B (Lib.hid h)
@[elab_as_elim] theorem BoxFin.elimB {W0 A : World} {T : Nat} {x y : Value} {motive : Nat → Prop} {B : World} {b : Nat} (h : BoxFin W0 A B b T x y) (k : ∀ b, Hid (BoxFin W0 A B b T x y) → motive b) : motive b := k b (Lib.hid h)
theorem read_hid {w : World} {t : Tr} (ht : t.size ≤ 2000000) : ∀ w', Below w.heap.size w w' → Calls Try.prog 59 #[.string (TS t)] w' fun e w'' => ∃ q, e = .returned (.pointer q) ∧ Hid (NodeP 163 w'' t (.pointer q)) ∧ Below w.heap.size w w'' := fun w' hb =>
  (read_ok t ht w').mono fun _e _w'' ⟨q, h1, h2, h3⟩ => ⟨q, h1, Lib.hid h2, hb.trans (h3.mono hb.size)⟩
theorem rfirst_hid {w : World} {t : Tr} : ∀ w' q, NodeP 163 w' t (.pointer q) → Below w.heap.size w w' → Calls Try.prog 155 #[.pointer q] w' fun e w'' => ∃ gs, e = .returned (.pointer (some ⟨gs, 0, none⟩)) ∧ Hid (∃ T gr ps, RStP w'' T gs (startS t) (.slice (some ⟨gr, 0, none⟩) 32 32) ps) ∧ Below w.heap.size w w'' := fun w' q hq hb =>
  (rfirst_any t (.pointer q) w' hq).mono fun _e _w'' ⟨gs, _ps, h1, h2, h3⟩ => ⟨gs, h1, Lib.hid ⟨_, _, _, h2⟩, hb.trans (h3.mono hb.size)⟩
theorem st_drew {w : World} {gs : Nat} {s : St} (h : ∃ T gr cp ps, RStP w T gs s (.slice (some ⟨gr, 0, none⟩) 32 cp) ps) : ∃ T gr cp ps, RStP w.drew T gs s (.slice (some ⟨gr, 0, none⟩) 32 cp) ps := by
  obtain ⟨T, gr, cp, ps, h⟩ := h
  exact ⟨T, gr, cp, ps, h.kept (Below.refl _ _).drew⟩
theorem load_hid {w : World} {v : Value} {l : List Ins} (hl : InsRow w w.heap.size v l) (hv : validB l = true) : ∀ w', Below w.heap.size w w' → Calls Try.prog 96 #[v] w' fun e w'' => ∃ gm tv, e = .returned (.pointer (some ⟨gm, 0, none⟩)) ∧ Hid (RMachP w'' w''.heap.size gm l v tv) ∧ Below w.heap.size w w'' := load_ct hl hv
def RBoth (w : World) (T : Nat) (gm gs : Nat) (l : List Ins) (v tv : Value) (s : St) : Prop := ∃ gr cp ps, T ≤ gr ∧ RStP w T gs s (.slice (some ⟨gr, 0, none⟩) 32 cp) ps ∧ RMachP w T gm l v tv
theorem fit_good {n : Int} {len : Nat} {L : List ByteArray} (hf : fitsB n len L = true) : Good len ⟨n.toNat, L.map toTr⟩ := by
  obtain ⟨h0, h1, h2, h3⟩ := fitsB_iff hf
  refine ⟨by show n.toNat ≤ len; omega, by simpa using h2, fun t ht => ?_⟩
  obtain ⟨s, hs, rfl⟩ := List.mem_map.1 ht
  obtain ⟨u, rfl, hu⟩ := isTree_get (List.all_eq_true.1 h3 s hs)
  rw [toTr_TS u hu]; exact hu
theorem ended_at3 {w : World} {T gm gs : Nat} {l : List Ins} {v tv : Value} {s : St} (b : Bool) (hb : ((s.pos : Int) == (l.length : Int)) = b) (h : RBoth w T gm gs l v tv s) : Calls Try.prog 129 #[.pointer (some ⟨gm, 0, none⟩), .pointer (some ⟨gs, 0, none⟩)] w fun e w' => e = .returned (.bool b) ∧ Hid (RBoth w' T gm gs l v tv s) ∧ Below w.heap.size w w' := by
  obtain ⟨gr, cp, ps, h1, h2, h3⟩ := h
  refine (rended_any w T gm gs l s v tv _ T ps h3 h2).mono ?_
  rintro e w' ⟨rfl, nq, rfl⟩
  have hq := below_drewN (Below.refl w.heap.size w) nq
  have hq' := below_drewN (Below.refl T w) nq
  exact ⟨by rw [hb], ⟨gr, cp, ps, h1, h2.kept hq, h3.kept hq' (Kept.below hq)⟩, hq⟩
theorem rstepOk_at3 {w : World} {B T gm gs : Nat} {l : List Ins} {v tv : Value} {s s' : St} (h : RBoth w T gm gs l v tv s) (hB : B ≤ T) (hg : Good l.length s) (hv : validB l = true) (he : s.pos ≠ l.length) (hs : stepP l s = some s') : Calls Try.prog 156 #[.pointer (some ⟨gm, 0, none⟩), .pointer (some ⟨gs, 0, none⟩)] w fun e w' => e = .returned (.bool true) ∧ Hid (∃ T gr cp ps, RStP w' T gs s' (.slice (some ⟨gr, 0, none⟩) 32 cp) ps) ∧ Below B w w' := by
  obtain ⟨gr, cp, ps, h1, h2, h3⟩ := h
  have hl4 := validB_len hv
  refine (refstep_some h3 h2 h1 hg (by omega) (validB_all hv) (by have := hg.1; omega) hs).mono ?_
  rintro e w' ⟨h4, h5⟩
  obtain ⟨⟨ps', h6⟩, h7, h8⟩ := h5.out
  exact ⟨h4, ⟨_, _, _, _, h6⟩, h7.mono hB⟩
theorem rstepNo_at3 {w : World} {B T gm gs : Nat} {l : List Ins} {v tv : Value} {s : St} (h : RBoth w T gm gs l v tv s) (hB : B ≤ T) (hg : Good l.length s) (hv : validB l = true) (he : s.pos ≠ l.length) (hs : stepP l s = none) : Calls Try.prog 156 #[.pointer (some ⟨gm, 0, none⟩), .pointer (some ⟨gs, 0, none⟩)] w fun e w' => e = .returned (.bool false) ∧ Below B w w' := by
  obtain ⟨gr, cp, ps, h1, h2, h3⟩ := h
  have hl4 := validB_len hv
  refine (refstep_none h3 h2 h1 hg (by omega) (validB_all hv) (by have := hg.1; omega) hs).mono ?_
  rintro e w' ⟨h4, h5⟩
  exact ⟨h4, h5.out.2.1.mono hB⟩

end Go.Proofs.Ytdjbcmfjlfkcjaa

namespace Go.Proofs.Ytdjbcmfjlfkcjaa
open Go.RowKit

/-- The box of an instruction holds these cells; all else is kept. -/
structure Boxed (A B : World) (g : Nat) (cs : Array Value) : Prop where
  box : B.heap[g]? = some (.cells cs 75 (0, 0))
  size : A.heap.size ≤ B.heap.size
  rest : ∀ k, k < A.heap.size → k ≠ g → B.heap[k]? = A.heap[k]?
  os : B.os = A.os
  tape : B.tape = A.tape
  output : B.output = A.output
theorem Boxed.of {A B : World} {g : Nat} {cs : Array Value} (hb : Below A.heap.size A B) (h : A.heap[g]? = some (.cells cs 75 (0, 0))) : Boxed A B g cs :=
  ⟨blk_lift hb h, hb.size, fun k hk _ => hb.block k hk, hb.os, hb.tape, hb.output⟩
theorem Boxed.set {A B : World} {g : Nat} {cs : Array Value} (h : Boxed A B g cs) (i : Nat) (v : Value) : Boxed A (B.setCell ⟨g, i, none⟩ v) g (cs.setIfInBounds i v) := by
  refine ⟨heap_setCell_same _ _ _ _ _ _ h.box, ?_, fun k hk hne => ?_, h.os, h.tape, h.output⟩
  · simp [World.setCell]; exact h.size
  · rw [Below.heap_setCell _ _ _ _ hne]; exact h.rest k hk hne
theorem Boxed.drew {A B : World} {g : Nat} {cs : Array Value} (h : Boxed A B g cs) : Boxed A B.drew g cs := ⟨h.box, h.size, h.rest, h.os, h.tape, h.output⟩

set_option maxHeartbeats 4000000 in
theorem get_regs (g : Nat) (op a b c : Int) (s0 : ByteArray) (o : Option Tr) (ho : SmallO o) (w : World) (hg : w.heap[g]? = some (.cells #[.int .i64 op, .int .i64 a, .int .i64 b, .int .i64 c, .string s0] 75 (0, 0))) :
    Calls Try.prog 167 #[.pointer (some ⟨g, 0, none⟩), .string (OT o)] w fun e w' => e = .returned (.bool (pB o && vB (pH o) && vB (pT o))) ∧ Boxed w w' g #[.int .i64 op, .int .i64 (vN (pH o) : Nat), .int .i64 (vN (pT o) : Nat), .int .i64 c, .string s0] := by
  have k0 := Lib.hid (fun w => cpair_any o ho w)
  have k1 := Lib.hid (fun w => cvalue_any (pH o) ho.hd w)
  have k2 := Lib.hid (fun w => cvalue_any (pT o) ho.tl w)
  generalize OT o = t0 at *
  generalize OT (pH o) = t1 at *
  generalize OT (pT o) = t2 at *
  generalize ((vN (pH o) : Nat) : Int) = n1 at *
  generalize ((vN (pT o) : Nat) : Int) = n2 at *
  generalize pB o = b0 at *
  generalize vB (pH o) = b1 at *
  generalize vB (pT o) = b2 at *
  clear ho
  have HG := Lib.hid hg
  clear hg
  go_enter Try.func167, Try.ntmps167
  go_wp2_with fail
  refine (k0.out _).mono ?_
  rintro e w1 ⟨rfl, hb1⟩
  have HB1 := Lib.hid hb1
  clear hb1 k0
  go_wp2_with fail
  refine (k1.out _).mono ?_
  rintro e w2 ⟨rfl, hb2⟩
  have HB2 := Lib.hid (HB1.out.trans (hb2.mono HB1.out.size))
  clear hb2 HB1 k1
  go_wp2_with fail
  refine (k2.out _).mono ?_
  rintro e w3 ⟨rfl, hb3⟩
  have HB3 := Lib.hid (HB2.out.trans (hb3.mono HB2.out.size))
  clear hb3 HB2 k2
  have hblk := blk_lift HB3.out HG.out
  obtain ⟨hcell, hfz⟩ := block_cells hblk
  have HX := Lib.hid (Boxed.of HB3.out HG.out)
  clear HB3 HG hblk
  have c1 := hcell 1
  have f1 := hfz 1
  simp only [List.getElem?_toArray, List.getElem?_cons_succ, List.getElem?_cons_zero] at c1
  have c2 := hcell 2
  have f2 := hfz 2
  simp only [List.getElem?_toArray, List.getElem?_cons_succ, List.getElem?_cons_zero] at c2
  clear hcell hfz
  cases b0 <;> cases b1 <;> cases b2
  all_goals
    go_wp2
    go_ret
    exact ⟨rfl, ((HX.out.set 1 _).set 2 _)⟩
set_option maxHeartbeats 4000000 in
theorem get_set (g : Nat) (op a b c : Int) (s0 : ByteArray) (o : Option Tr) (ho : SmallO o) (w : World) (hg : w.heap[g]? = some (.cells #[.int .i64 op, .int .i64 a, .int .i64 b, .int .i64 c, .string s0] 75 (0, 0))) :
    Calls Try.prog 147 #[.pointer (some ⟨g, 0, none⟩), .string (OT o)] w fun e w' => e = .returned (.bool (pB o && vB (pH o))) ∧ Boxed w w' g #[.int .i64 op, .int .i64 (vN (pH o) : Nat), .int .i64 b, .int .i64 c, .string (OT (pT o))] := by
  have k0 := Lib.hid (fun w => cpair_any o ho w)
  have k1 := Lib.hid (fun w => cvalue_any (pH o) ho.hd w)
  generalize OT o = t0 at *
  generalize OT (pH o) = t1 at *
  generalize OT (pT o) = t2 at *
  generalize ((vN (pH o) : Nat) : Int) = n1 at *
  generalize pB o = b0 at *
  generalize vB (pH o) = b1 at *
  clear ho
  have HG := Lib.hid hg
  clear hg
  go_enter Try.func147, Try.ntmps147
  go_wp2_with fail
  refine (k0.out _).mono ?_
  rintro e w1 ⟨rfl, hb1⟩
  have HB1 := Lib.hid hb1
  clear hb1 k0
  go_wp2_with fail
  refine (k1.out _).mono ?_
  rintro e w2 ⟨rfl, hb2⟩
  have HB2 := Lib.hid (HB1.out.trans (hb2.mono HB1.out.size))
  clear hb2 HB1 k1
  have hblk := blk_lift HB2.out HG.out
  obtain ⟨hcell, hfz⟩ := block_cells hblk
  have HX := Lib.hid (Boxed.of HB2.out HG.out)
  clear HB2 HG hblk
  have c1 := hcell 1
  have f1 := hfz 1
  simp only [List.getElem?_toArray, List.getElem?_cons_succ, List.getElem?_cons_zero] at c1
  have c4 := hcell 4
  have f4 := hfz 4
  simp only [List.getElem?_toArray, List.getElem?_cons_succ, List.getElem?_cons_zero] at c4
  clear hcell hfz
  cases b0 <;> cases b1
  all_goals
    go_wp2
    go_ret
    exact ⟨rfl, ((HX.out.set 1 _).set 4 _)⟩
set_option maxHeartbeats 4000000 in
theorem get_cons (g : Nat) (op a b c : Int) (s0 : ByteArray) (o : Option Tr) (ho : SmallO o) (w : World) (hg : w.heap[g]? = some (.cells #[.int .i64 op, .int .i64 a, .int .i64 b, .int .i64 c, .string s0] 75 (0, 0))) :
    Calls Try.prog 149 #[.pointer (some ⟨g, 0, none⟩), .string (OT o)] w fun e w' => e = .returned (.bool (pB o && pB (pT o) && vB (pH o) && vB (pH (pT o)) && vB (pT (pT o)))) ∧ Boxed w w' g #[.int .i64 op, .int .i64 (vN (pH o) : Nat), .int .i64 (vN (pH (pT o)) : Nat), .int .i64 (vN (pT (pT o)) : Nat), .string s0] := by
  have k0 := Lib.hid (fun w => cpair_any o ho w)
  have k1 := Lib.hid (fun w => cpair_any (pT o) ho.tl w)
  have k2 := Lib.hid (fun w => cvalue_any (pH o) ho.hd w)
  have k3 := Lib.hid (fun w => cvalue_any (pH (pT o)) ho.tl.hd w)
  have k4 := Lib.hid (fun w => cvalue_any (pT (pT o)) ho.tl.tl w)
  generalize OT o = t0 at *
  generalize OT (pH o) = t1 at *
  generalize OT (pT o) = t2 at *
  generalize OT (pH (pT o)) = t3 at *
  generalize OT (pT (pT o)) = t4 at *
  generalize ((vN (pH o) : Nat) : Int) = n2 at *
  generalize ((vN (pH (pT o)) : Nat) : Int) = n3 at *
  generalize ((vN (pT (pT o)) : Nat) : Int) = n4 at *
  generalize pB o = b0 at *
  generalize pB (pT o) = b1 at *
  generalize vB (pH o) = b2 at *
  generalize vB (pH (pT o)) = b3 at *
  generalize vB (pT (pT o)) = b4 at *
  clear ho
  have HG := Lib.hid hg
  clear hg
  go_enter Try.func149, Try.ntmps149
  go_wp2_with fail
  refine (k0.out _).mono ?_
  rintro e w1 ⟨rfl, hb1⟩
  have HB1 := Lib.hid hb1
  clear hb1 k0
  go_wp2_with fail
  refine (k1.out _).mono ?_
  rintro e w2 ⟨rfl, hb2⟩
  have HB2 := Lib.hid (HB1.out.trans (hb2.mono HB1.out.size))
  clear hb2 HB1 k1
  go_wp2_with fail
  refine (k2.out _).mono ?_
  rintro e w3 ⟨rfl, hb3⟩
  have HB3 := Lib.hid (HB2.out.trans (hb3.mono HB2.out.size))
  clear hb3 HB2 k2
  go_wp2_with fail
  refine (k3.out _).mono ?_
  rintro e w4 ⟨rfl, hb4⟩
  have HB4 := Lib.hid (HB3.out.trans (hb4.mono HB3.out.size))
  clear hb4 HB3 k3
  go_wp2_with fail
  refine (k4.out _).mono ?_
  rintro e w5 ⟨rfl, hb5⟩
  have HB5 := Lib.hid (HB4.out.trans (hb5.mono HB4.out.size))
  clear hb5 HB4 k4
  have hblk := blk_lift HB5.out HG.out
  obtain ⟨hcell, hfz⟩ := block_cells hblk
  have HX := Lib.hid (Boxed.of HB5.out HG.out)
  clear HB5 HG hblk
  have c1 := hcell 1
  have f1 := hfz 1
  simp only [List.getElem?_toArray, List.getElem?_cons_succ, List.getElem?_cons_zero] at c1
  have c2 := hcell 2
  have f2 := hfz 2
  simp only [List.getElem?_toArray, List.getElem?_cons_succ, List.getElem?_cons_zero] at c2
  have c3 := hcell 3
  have f3 := hfz 3
  simp only [List.getElem?_toArray, List.getElem?_cons_succ, List.getElem?_cons_zero] at c3
  clear hcell hfz
  cases b0 <;> cases b1 <;> cases b2 <;> cases b3 <;> cases b4
  all_goals
    go_wp2
    go_ret
    exact ⟨rfl, (((HX.out.set 1 _).set 2 _).set 3 _)⟩
end Go.Proofs.Ytdjbcmfjlfkcjaa

namespace Go.Proofs.Ytdjbcmfjlfkcjaa
open Go.RowKit

theorem vN_le {o : Option Tr} (h : SmallO o) : vN o ≤ 1000000 := by
  match o, h with
  | none, _ => exact Nat.zero_le _
  | some t, h =>
    have h1 := h t rfl
    rw [t.size_pairs] at h1
    unfold vN
    by_cases hn : t.isNum = true
    · simp only [hn, if_true]; omega
    · simp only [hn]; exact Nat.zero_le _
/-- The sign of a jump: on, or back by more than nothing. -/
def jB : Option Tr → Nat → Bool | some .nil, _ => true | some (.pair .nil .nil), n => decide (0 < n) | _, _ => false
def jN : Option Tr → Nat → Int | some (.pair .nil .nil), n => -(n : Int) | _, n => n
def sg0 : Option Tr → Bool | some .nil => true | _ => false
def sg1 : Option Tr → Bool | some (.pair .nil .nil) => true | _ => false
theorem sg_cases (o : Option Tr) (n : Nat) : (sg0 o = true ∧ sg1 o = false ∧ jB o n = true ∧ jN o n = n) ∨ (sg0 o = false ∧ sg1 o = true ∧ jB o n = decide (0 < n) ∧ jN o n = -(n : Int)) ∨ (sg0 o = false ∧ sg1 o = false ∧ jB o n = false ∧ jN o n = n) := by
  match o with
  | none => exact .inr (.inr ⟨rfl, rfl, rfl, rfl⟩)
  | some .nil => exact .inl ⟨rfl, rfl, rfl, rfl⟩
  | some (.pair .nil .nil) => exact .inr (.inl ⟨rfl, rfl, rfl, rfl⟩)
  | some (.pair (.pair _ _) _) => exact .inr (.inr ⟨rfl, rfl, rfl, rfl⟩)
  | some (.pair .nil (.pair _ _)) => exact .inr (.inr ⟨rfl, rfl, rfl, rfl⟩)
theorem sg0_eq (o : Option Tr) : ((OT o).toList == [48]) = sg0 o := by
  rw [ByteArray.toList_eq]
  match o with
  | none => rfl
  | some .nil => rfl
  | some (.pair a b) => show ((TS (.pair a b)).data.toList == [48]) = false; rw [TS_list]; rfl
theorem sg1_eq (o : Option Tr) : ((OT o).toList == [49, 48, 48]) = sg1 o := by
  rw [ByteArray.toList_eq]
  have key : ∀ t : Tr, t ≠ .pair .nil .nil → ((TS t).data.toList == [49, 48, 48]) = false := by
    intro t ht
    rw [TS_list, beq_eq_false_iff_ne]
    intro h
    exact ht (enc_inj (u := .pair .nil .nil) h)
  match o with
  | none => rfl
  | some .nil => rfl
  | some (.pair .nil .nil) => rfl
  | some (.pair (.pair _ _) _) => exact key _ (by simp)
  | some (.pair .nil (.pair _ _)) => exact key _ (by simp)
set_option maxHeartbeats 4000000 in
theorem get_jump0 (g : Nat) (op a b c : Int) (s0 t0 t1 t2 t3 t4 : ByteArray) (b0 b1 b2 b3 : Bool) (n2 n3 : Int) (_hn : 0 ≤ n3 ∧ n3 ≤ 1000000) (h0 : (t3.toList == [48]) = true) (h1 : (t3.toList == [49, 48, 48]) = false)
    (k0 : Hid (∀ w, Calls Try.prog 116 #[.string t0] w fun e w' => e = .returned (.tuple #[.string t1, .string t2, .bool b0]) ∧ Below w.heap.size w w'))
    (k1 : Hid (∀ w, Calls Try.prog 116 #[.string t2] w fun e w' => e = .returned (.tuple #[.string t3, .string t4, .bool b1]) ∧ Below w.heap.size w w'))
    (k2 : Hid (∀ w, Calls Try.prog 117 #[.string t1] w fun e w' => e = .returned (.tuple #[.int .i64 n2, .bool b2]) ∧ Below w.heap.size w w'))
    (k3 : Hid (∀ w, Calls Try.prog 117 #[.string t4] w fun e w' => e = .returned (.tuple #[.int .i64 n3, .bool b3]) ∧ Below w.heap.size w w'))
    (w : World) (hg : w.heap[g]? = some (.cells #[.int .i64 op, .int .i64 a, .int .i64 b, .int .i64 c, .string s0] 75 (0, 0))) :
    Calls Try.prog 151 #[.pointer (some ⟨g, 0, none⟩), .string t0] w fun e w' => e = .returned (.bool (b0 && b1 && b2 && b3 && true)) ∧ Boxed w w' g #[.int .i64 op, .int .i64 n2, .int .i64 n3, .int .i64 c, .string s0] := by
  have HG := Lib.hid hg
  clear hg
  go_enter Try.func151, Try.ntmps151
  go_wp2_with fail
  refine (k0.out _).mono ?_
  rintro e w1 ⟨rfl, hb1⟩
  have HB1 := Lib.hid hb1
  clear hb1 k0
  go_wp2_with fail
  refine (k1.out _).mono ?_
  rintro e w2 ⟨rfl, hb2⟩
  have HB2 := Lib.hid (HB1.out.trans (hb2.mono HB1.out.size))
  clear hb2 HB1 k1
  go_wp2_with fail
  refine (k2.out _).mono ?_
  rintro e w3 ⟨rfl, hb3⟩
  have HB3 := Lib.hid (HB2.out.trans (hb3.mono HB2.out.size))
  clear hb3 HB2 k2
  go_wp2_with fail
  refine (k3.out _).mono ?_
  rintro e w4 ⟨rfl, hb4⟩
  have HB4 := Lib.hid (HB3.out.trans (hb4.mono HB3.out.size))
  clear hb4 HB3 k3
  have hblk := blk_lift HB4.out HG.out
  obtain ⟨hcell, hfz⟩ := block_cells hblk
  have HX := Lib.hid (Boxed.of HB4.out HG.out)
  clear HB4 HG hblk
  have c1 := hcell 1
  have f1 := hfz 1
  simp only [List.getElem?_toArray, List.getElem?_cons_succ, List.getElem?_cons_zero] at c1
  have c2 := hcell 2
  have f2 := hfz 2
  simp only [List.getElem?_toArray, List.getElem?_cons_succ, List.getElem?_cons_zero] at c2
  clear hcell hfz
  cases b0
  · (go_wp2; go_ret; exact ⟨rfl, ((HX.out.set 1 _).set 2 _)⟩)
  · skip
    cases b1
    · (go_wp2; go_ret; exact ⟨rfl, ((HX.out.set 1 _).set 2 _)⟩)
    · skip
      cases b2
      · (go_wp2; go_ret; exact ⟨rfl, ((HX.out.set 1 _).set 2 _)⟩)
      · skip
        cases b3
        · (go_wp2; go_ret; exact ⟨rfl, ((HX.out.set 1 _).set 2 _)⟩)
        · (go_wp2; go_ret; exact ⟨rfl, ((HX.out.set 1 _).set 2 _)⟩)
set_option maxHeartbeats 4000000 in
theorem get_jump1 (g : Nat) (op a b c : Int) (s0 t0 t1 t2 t3 t4 : ByteArray) (b0 b1 b2 b3 : Bool) (n2 n3 : Int) (hn : 0 ≤ n3 ∧ n3 ≤ 1000000) (h0 : (t3.toList == [48]) = false) (h1 : (t3.toList == [49, 48, 48]) = true)
    (k0 : Hid (∀ w, Calls Try.prog 116 #[.string t0] w fun e w' => e = .returned (.tuple #[.string t1, .string t2, .bool b0]) ∧ Below w.heap.size w w'))
    (k1 : Hid (∀ w, Calls Try.prog 116 #[.string t2] w fun e w' => e = .returned (.tuple #[.string t3, .string t4, .bool b1]) ∧ Below w.heap.size w w'))
    (k2 : Hid (∀ w, Calls Try.prog 117 #[.string t1] w fun e w' => e = .returned (.tuple #[.int .i64 n2, .bool b2]) ∧ Below w.heap.size w w'))
    (k3 : Hid (∀ w, Calls Try.prog 117 #[.string t4] w fun e w' => e = .returned (.tuple #[.int .i64 n3, .bool b3]) ∧ Below w.heap.size w w'))
    (w : World) (hg : w.heap[g]? = some (.cells #[.int .i64 op, .int .i64 a, .int .i64 b, .int .i64 c, .string s0] 75 (0, 0))) :
    Calls Try.prog 151 #[.pointer (some ⟨g, 0, none⟩), .string t0] w fun e w' => e = .returned (.bool (b0 && b1 && b2 && b3 && decide (0 < n3))) ∧ Boxed w w' g #[.int .i64 op, .int .i64 n2, .int .i64 (-n3), .int .i64 c, .string s0] := by
  have HG := Lib.hid hg
  clear hg
  go_enter Try.func151, Try.ntmps151
  go_wp2_with fail
  refine (k0.out _).mono ?_
  rintro e w1 ⟨rfl, hb1⟩
  have HB1 := Lib.hid hb1
  clear hb1 k0
  go_wp2_with fail
  refine (k1.out _).mono ?_
  rintro e w2 ⟨rfl, hb2⟩
  have HB2 := Lib.hid (HB1.out.trans (hb2.mono HB1.out.size))
  clear hb2 HB1 k1
  go_wp2_with fail
  refine (k2.out _).mono ?_
  rintro e w3 ⟨rfl, hb3⟩
  have HB3 := Lib.hid (HB2.out.trans (hb3.mono HB2.out.size))
  clear hb3 HB2 k2
  go_wp2_with fail
  refine (k3.out _).mono ?_
  rintro e w4 ⟨rfl, hb4⟩
  have HB4 := Lib.hid (HB3.out.trans (hb4.mono HB3.out.size))
  clear hb4 HB3 k3
  have hblk := blk_lift HB4.out HG.out
  obtain ⟨hcell, hfz⟩ := block_cells hblk
  have HX := Lib.hid (Boxed.of HB4.out HG.out)
  clear HB4 HG hblk
  have c1 := hcell 1
  have f1 := hfz 1
  simp only [List.getElem?_toArray, List.getElem?_cons_succ, List.getElem?_cons_zero] at c1
  have c2 := hcell 2
  have f2 := hfz 2
  simp only [List.getElem?_toArray, List.getElem?_cons_succ, List.getElem?_cons_zero] at c2
  clear hcell hfz
  cases b0
  · (go_wp2; go_ret; exact ⟨rfl, (((HX.out.set 1 _).set 2 _).set 2 _)⟩)
  · skip
    cases b1
    · (go_wp2; go_ret; exact ⟨rfl, (((HX.out.set 1 _).set 2 _).set 2 _)⟩)
    · skip
      cases b2
      · (go_wp2; go_ret; exact ⟨rfl, (((HX.out.set 1 _).set 2 _).set 2 _)⟩)
      · skip
        cases b3
        · (go_wp2; go_ret; exact ⟨rfl, (((HX.out.set 1 _).set 2 _).set 2 _)⟩)
        · (go_wp2; go_ret; exact ⟨rfl, (((HX.out.set 1 _).set 2 _).set 2 _)⟩)
set_option maxHeartbeats 4000000 in
theorem get_jump3 (g : Nat) (op a b c : Int) (s0 t0 t1 t2 t3 t4 : ByteArray) (b0 b1 b2 b3 : Bool) (n2 n3 : Int) (_hn : 0 ≤ n3 ∧ n3 ≤ 1000000) (h0 : (t3.toList == [48]) = false) (h1 : (t3.toList == [49, 48, 48]) = false)
    (k0 : Hid (∀ w, Calls Try.prog 116 #[.string t0] w fun e w' => e = .returned (.tuple #[.string t1, .string t2, .bool b0]) ∧ Below w.heap.size w w'))
    (k1 : Hid (∀ w, Calls Try.prog 116 #[.string t2] w fun e w' => e = .returned (.tuple #[.string t3, .string t4, .bool b1]) ∧ Below w.heap.size w w'))
    (k2 : Hid (∀ w, Calls Try.prog 117 #[.string t1] w fun e w' => e = .returned (.tuple #[.int .i64 n2, .bool b2]) ∧ Below w.heap.size w w'))
    (k3 : Hid (∀ w, Calls Try.prog 117 #[.string t4] w fun e w' => e = .returned (.tuple #[.int .i64 n3, .bool b3]) ∧ Below w.heap.size w w'))
    (w : World) (hg : w.heap[g]? = some (.cells #[.int .i64 op, .int .i64 a, .int .i64 b, .int .i64 c, .string s0] 75 (0, 0))) :
    Calls Try.prog 151 #[.pointer (some ⟨g, 0, none⟩), .string t0] w fun e w' => e = .returned (.bool (b0 && b1 && b2 && b3 && false)) ∧ Boxed w w' g #[.int .i64 op, .int .i64 n2, .int .i64 n3, .int .i64 c, .string s0] := by
  have HG := Lib.hid hg
  clear hg
  go_enter Try.func151, Try.ntmps151
  go_wp2_with fail
  refine (k0.out _).mono ?_
  rintro e w1 ⟨rfl, hb1⟩
  have HB1 := Lib.hid hb1
  clear hb1 k0
  go_wp2_with fail
  refine (k1.out _).mono ?_
  rintro e w2 ⟨rfl, hb2⟩
  have HB2 := Lib.hid (HB1.out.trans (hb2.mono HB1.out.size))
  clear hb2 HB1 k1
  go_wp2_with fail
  refine (k2.out _).mono ?_
  rintro e w3 ⟨rfl, hb3⟩
  have HB3 := Lib.hid (HB2.out.trans (hb3.mono HB2.out.size))
  clear hb3 HB2 k2
  go_wp2_with fail
  refine (k3.out _).mono ?_
  rintro e w4 ⟨rfl, hb4⟩
  have HB4 := Lib.hid (HB3.out.trans (hb4.mono HB3.out.size))
  clear hb4 HB3 k3
  have hblk := blk_lift HB4.out HG.out
  obtain ⟨hcell, hfz⟩ := block_cells hblk
  have HX := Lib.hid (Boxed.of HB4.out HG.out)
  clear HB4 HG hblk
  have c1 := hcell 1
  have f1 := hfz 1
  simp only [List.getElem?_toArray, List.getElem?_cons_succ, List.getElem?_cons_zero] at c1
  have c2 := hcell 2
  have f2 := hfz 2
  simp only [List.getElem?_toArray, List.getElem?_cons_succ, List.getElem?_cons_zero] at c2
  clear hcell hfz
  cases b0
  · (go_wp2; go_ret; exact ⟨rfl, ((HX.out.set 1 _).set 2 _)⟩)
  · skip
    cases b1
    · (go_wp2; go_ret; exact ⟨rfl, ((HX.out.set 1 _).set 2 _)⟩)
    · skip
      cases b2
      · (go_wp2; go_ret; exact ⟨rfl, ((HX.out.set 1 _).set 2 _)⟩)
      · skip
        cases b3
        · (go_wp2; go_ret; exact ⟨rfl, ((HX.out.set 1 _).set 2 _)⟩)
        · (go_wp2; go_ret; exact ⟨rfl, ((HX.out.set 1 _).set 2 _)⟩)
theorem get_jump (g : Nat) (op a b c : Int) (s0 : ByteArray) (o : Option Tr) (ho : SmallO o) (w : World) (hg : w.heap[g]? = some (.cells #[.int .i64 op, .int .i64 a, .int .i64 b, .int .i64 c, .string s0] 75 (0, 0))) :
    Calls Try.prog 151 #[.pointer (some ⟨g, 0, none⟩), .string (OT o)] w fun e w' => e = .returned (.bool (pB o && pB (pT o) && vB (pH o) && vB (pT (pT o)) && jB (pH (pT o)) (vN (pT (pT o))))) ∧ Boxed w w' g #[.int .i64 op, .int .i64 (vN (pH o) : Nat), .int .i64 (jN (pH (pT o)) (vN (pT (pT o)))), .int .i64 c, .string s0] := by
  have k0 := Lib.hid (fun w => cpair_any o ho w)
  have k1 := Lib.hid (fun w => cpair_any (pT o) ho.tl w)
  have k2 := Lib.hid (fun w => cvalue_any (pH o) ho.hd w)
  have k3 := Lib.hid (fun w => cvalue_any (pT (pT o)) ho.tl.tl w)
  have hn := vN_le ho.tl.tl
  have h0 := sg0_eq (pH (pT o))
  have h1 := sg1_eq (pH (pT o))
  rcases sg_cases (pH (pT o)) (vN (pT (pT o))) with ⟨e0, e1, e2, e3⟩ | ⟨e0, e1, e2, e3⟩ | ⟨e0, e1, e2, e3⟩
  · rw [e0] at h0; rw [e1] at h1; rw [e2, e3]
    exact get_jump0 g op a b c s0 _ _ _ _ _ _ _ _ _ _ _ (by omega) h0 h1 k0 k1 k2 k3 w hg
  · rw [e0] at h0; rw [e1] at h1; rw [e2, e3]
    have he : decide (0 < vN (pT (pT o))) = decide ((0 : Int) < (vN (pT (pT o)) : Nat)) := by simp
    rw [he]
    exact get_jump1 g op a b c s0 _ _ _ _ _ _ _ _ _ _ _ (by omega) h0 h1 k0 k1 k2 k3 w hg
  · rw [e0] at h0; rw [e1] at h1; rw [e2, e3]
    exact get_jump3 g op a b c s0 _ _ _ _ _ _ _ _ _ _ _ (by omega) h0 h1 k0 k1 k2 k3 w hg
end Go.Proofs.Ytdjbcmfjlfkcjaa

namespace Go.Proofs.Ytdjbcmfjlfkcjaa
open Go.RowKit

set_option maxRecDepth 20000 in
theorem fget_set (w : World) : Calls Try.prog 118 #[.int .i64 0] w fun e w' => e = .returned (.agg #[.func (.func 146) #[] #[], .func (.func 147) #[] #[]]) ∧ Below w.heap.size w w' := by
  have hb0 := (Below.refl w.heap.size w).alloc (Nat.le_refl _) (.cells #[.func (.func 146) #[] #[], .func (.func 147) #[] #[]] 156)
  go_enter Try.func118, Try.ntmps118
  go_wp2
  refine bodyPost_ret (v := .agg #[.func (.func 146) #[] #[], .func (.func 147) #[] #[]]) (by simp [results, Try.results118, go_sem]) rfl ?_
  exact ⟨rfl, hb0⟩

set_option maxRecDepth 20000 in
theorem fget_cons (w : World) : Calls Try.prog 118 #[.int .i64 2] w fun e w' => e = .returned (.agg #[.func (.func 148) #[] #[], .func (.func 149) #[] #[]]) ∧ Below w.heap.size w w' := by
  have hb0 := (Below.refl w.heap.size w).alloc (Nat.le_refl _) (.cells #[.func (.func 148) #[] #[], .func (.func 149) #[] #[]] 156)
  go_enter Try.func118, Try.ntmps118
  go_wp2
  refine bodyPost_ret (v := .agg #[.func (.func 148) #[] #[], .func (.func 149) #[] #[]]) (by simp [results, Try.results118, go_sem]) rfl ?_
  exact ⟨rfl, hb0⟩

set_option maxRecDepth 20000 in
theorem fget_jump (w : World) : Calls Try.prog 118 #[.int .i64 5] w fun e w' => e = .returned (.agg #[.func (.func 150) #[] #[], .func (.func 151) #[] #[]]) ∧ Below w.heap.size w w' := by
  have hb0 := (Below.refl w.heap.size w).alloc (Nat.le_refl _) (.cells #[.func (.func 150) #[] #[], .func (.func 151) #[] #[]] 156)
  go_enter Try.func118, Try.ntmps118
  go_wp2
  refine bodyPost_ret (v := .agg #[.func (.func 150) #[] #[], .func (.func 151) #[] #[]]) (by simp [results, Try.results118, go_sem]) rfl ?_
  exact ⟨rfl, hb0⟩

set_option maxRecDepth 20000 in
theorem fget_r1 (w : World) : Calls Try.prog 118 #[.int .i64 1] w fun e w' => e = .returned (.agg #[.func (.func 166) #[] #[], .func (.func 167) #[] #[]]) ∧ Below w.heap.size w w' := by
  have hb0 := (Below.refl w.heap.size w).alloc (Nat.le_refl _) (.cells #[.nilFunc, .nilFunc] 156)
  have hblk := heap_alloc_new w (.cells #[.nilFunc, .nilFunc] 156)
  have kr := Lib.hid (fun w => regs_any w)
  have HW := Lib.hid hblk
  have HB := Lib.hid hb0
  clear hblk hb0
  go_enter Try.func118, Try.ntmps118
  go_wp2_with fail
  refine (kr.out _).mono ?_
  rintro e w1 ⟨rfl, hb1⟩
  have h2 := (hb1.block w.heap.size (by simp)).trans HW.out
  have cc := (block_cells h2).1
  have c0 := cc 0
  have c1 := cc 1
  have f0 := (block_cells h2).2 0
  have f1 := (block_cells h2).2 1
  simp only [List.getElem?_toArray, List.getElem?_cons_zero, List.getElem?_cons_succ] at c0 c1
  have hb0 := ((HB.out.trans (hb1.mono HB.out.size)).setCell (p := ⟨w.heap.size, 0, none⟩) (Nat.le_refl _) (.func (.func 166) #[] #[])).setCell (p := ⟨w.heap.size, 1, none⟩) (Nat.le_refl _) (.func (.func 167) #[] #[])
  have hs1 := set_blk (set_blk h2 0 (.func (.func 166) #[] #[])) 1 (.func (.func 167) #[] #[])
  have q0 := (block_cells hs1).1 0
  have q1 := (block_cells hs1).1 1
  simp only [List.setIfInBounds_toArray, List.set_cons_zero, List.set_cons_succ, List.getElem?_toArray, List.getElem?_cons_zero, List.getElem?_cons_succ] at q0 q1
  clear cc
  go_wp2
  refine bodyPost_ret (v := .agg #[.func (.func 166) #[] #[], .func (.func 167) #[] #[]]) (by simp [results, Try.results118, go_sem, q0, q1]) rfl ?_
  exact ⟨rfl, hb0⟩

set_option maxRecDepth 20000 in
theorem fget_r3 (w : World) : Calls Try.prog 118 #[.int .i64 3] w fun e w' => e = .returned (.agg #[.func (.func 166) #[] #[], .func (.func 167) #[] #[]]) ∧ Below w.heap.size w w' := by
  have hb0 := (Below.refl w.heap.size w).alloc (Nat.le_refl _) (.cells #[.nilFunc, .nilFunc] 156)
  have hblk := heap_alloc_new w (.cells #[.nilFunc, .nilFunc] 156)
  have kr := Lib.hid (fun w => regs_any w)
  have HW := Lib.hid hblk
  have HB := Lib.hid hb0
  clear hblk hb0
  go_enter Try.func118, Try.ntmps118
  go_wp2_with fail
  refine (kr.out _).mono ?_
  rintro e w1 ⟨rfl, hb1⟩
  have h2 := (hb1.block w.heap.size (by simp)).trans HW.out
  have cc := (block_cells h2).1
  have c0 := cc 0
  have c1 := cc 1
  have f0 := (block_cells h2).2 0
  have f1 := (block_cells h2).2 1
  simp only [List.getElem?_toArray, List.getElem?_cons_zero, List.getElem?_cons_succ] at c0 c1
  have hb0 := ((HB.out.trans (hb1.mono HB.out.size)).setCell (p := ⟨w.heap.size, 0, none⟩) (Nat.le_refl _) (.func (.func 166) #[] #[])).setCell (p := ⟨w.heap.size, 1, none⟩) (Nat.le_refl _) (.func (.func 167) #[] #[])
  have hs1 := set_blk (set_blk h2 0 (.func (.func 166) #[] #[])) 1 (.func (.func 167) #[] #[])
  have q0 := (block_cells hs1).1 0
  have q1 := (block_cells hs1).1 1
  simp only [List.setIfInBounds_toArray, List.set_cons_zero, List.set_cons_succ, List.getElem?_toArray, List.getElem?_cons_zero, List.getElem?_cons_succ] at q0 q1
  clear cc
  go_wp2
  refine bodyPost_ret (v := .agg #[.func (.func 166) #[] #[], .func (.func 167) #[] #[]]) (by simp [results, Try.results118, go_sem, q0, q1]) rfl ?_
  exact ⟨rfl, hb0⟩

set_option maxRecDepth 20000 in
theorem fget_r4 (w : World) : Calls Try.prog 118 #[.int .i64 4] w fun e w' => e = .returned (.agg #[.func (.func 166) #[] #[], .func (.func 167) #[] #[]]) ∧ Below w.heap.size w w' := by
  have hb0 := (Below.refl w.heap.size w).alloc (Nat.le_refl _) (.cells #[.nilFunc, .nilFunc] 156)
  have hblk := heap_alloc_new w (.cells #[.nilFunc, .nilFunc] 156)
  have kr := Lib.hid (fun w => regs_any w)
  have HW := Lib.hid hblk
  have HB := Lib.hid hb0
  clear hblk hb0
  go_enter Try.func118, Try.ntmps118
  go_wp2_with fail
  refine (kr.out _).mono ?_
  rintro e w1 ⟨rfl, hb1⟩
  have h2 := (hb1.block w.heap.size (by simp)).trans HW.out
  have cc := (block_cells h2).1
  have c0 := cc 0
  have c1 := cc 1
  have f0 := (block_cells h2).2 0
  have f1 := (block_cells h2).2 1
  simp only [List.getElem?_toArray, List.getElem?_cons_zero, List.getElem?_cons_succ] at c0 c1
  have hb0 := ((HB.out.trans (hb1.mono HB.out.size)).setCell (p := ⟨w.heap.size, 0, none⟩) (Nat.le_refl _) (.func (.func 166) #[] #[])).setCell (p := ⟨w.heap.size, 1, none⟩) (Nat.le_refl _) (.func (.func 167) #[] #[])
  have hs1 := set_blk (set_blk h2 0 (.func (.func 166) #[] #[])) 1 (.func (.func 167) #[] #[])
  have q0 := (block_cells hs1).1 0
  have q1 := (block_cells hs1).1 1
  simp only [List.setIfInBounds_toArray, List.set_cons_zero, List.set_cons_succ, List.getElem?_toArray, List.getElem?_cons_zero, List.getElem?_cons_succ] at q0 q1
  clear cc
  go_wp2
  refine bodyPost_ret (v := .agg #[.func (.func 166) #[] #[], .func (.func 167) #[] #[]]) (by simp [results, Try.results118, go_sem, q0, q1]) rfl ?_
  exact ⟨rfl, hb0⟩

/-- Whether the fields of an operation are read, and what is read. -/
def gB (n : Nat) (o : Option Tr) : Bool := match n with
  | 0 => pB o && vB (pH o)
  | 2 => pB o && pB (pT o) && vB (pH o) && vB (pH (pT o)) && vB (pT (pT o))
  | 5 => pB o && pB (pT o) && vB (pH o) && vB (pT (pT o)) && jB (pH (pT o)) (vN (pT (pT o)))
  | _ => pB o && vB (pH o) && vB (pT o)
def gI (n : Nat) (o : Option Tr) : Ins := match n with
  | 0 => ⟨0, vN (pH o), 0, 0, OT (pT o)⟩
  | 2 => ⟨2, vN (pH o), vN (pH (pT o)), vN (pT (pT o)), ⟨#[]⟩⟩
  | 5 => ⟨5, vN (pH o), jN (pH (pT o)) (vN (pT (pT o))), 0, ⟨#[]⟩⟩
  | n => ⟨n, vN (pH o), vN (pT o), 0, ⟨#[]⟩⟩
theorem vN_some {t : Tr} (h : t.isNum = true) : vN (some t) = t.pairs := if_pos h
theorem decB_g (n : Nat) (a r : Tr) (ha : a.isNum = true) : decB n a.pairs r = if decide (n < 6) && gB n (some (.pair a r)) then some (gI n (some (.pair a r))) else none := by
  have e1 : vN (some a) = a.pairs := vN_some ha
  match n with
  | 0 => simp [decB, gB, gI, pB, pH, pT, vB, ha, e1, OT]
  | 1 => by_cases hr : r.isNum = true <;> simp [decB, gB, gI, pB, pH, pT, vB, ha, hr, vN]
  | 2 =>
    match r with
    | .nil => simp [decB, gB, pB, pH, pT]
    | .pair b c => by_cases hb : b.isNum = true <;> by_cases hc : c.isNum = true <;> simp [decB, gB, gI, pB, pH, pT, vB, ha, hb, hc, vN]
  | 3 => by_cases hr : r.isNum = true <;> simp [decB, gB, gI, pB, pH, pT, vB, ha, hr, vN]
  | 4 => by_cases hr : r.isNum = true <;> simp [decB, gB, gI, pB, pH, pT, vB, ha, hr, vN]
  | 5 =>
    match r with
    | .nil => simp [decB, gB, pB, pT]
    | .pair .nil b => by_cases hb : b.isNum = true <;> simp [decB, gB, gI, pB, pH, pT, vB, ha, hb, vN, jB, jN]
    | .pair (.pair .nil .nil) b => by_cases hb : b.isNum = true <;> by_cases hp : 0 < b.pairs <;> simp [decB, gB, gI, pB, pH, pT, vB, ha, hb, hp, vN, jB, jN]
    | .pair (.pair (.pair _ _) _) b => simp [decB, gB, pB, pH, pT, jB]
    | .pair (.pair .nil (.pair _ _)) b => simp [decB, gB, pB, pH, pT, jB]
  | n + 6 =>
    have h : ¬ n + 6 < 6 := by omega
    simp [decB, h]
theorem gB_nil (n : Nat) : gB n (some .nil) = false := by
  unfold gB
  split <;> rfl
theorem decI_g (u : Tr) : decI u = if pB (some u) && vB (pH (some u)) && decide (vN (pH (some u)) < 6) && gB (vN (pH (some u))) (pT (some u)) then some (gI (vN (pH (some u))) (pT (some u))) else none := by
  match u with
  | .nil => rfl
  | .pair o .nil => simp [decI, pT, gB_nil]
  | .pair o (.pair a r) =>
    rw [decI_eq]
    have p1 : pB (some (.pair o (.pair a r))) = true := rfl
    have p2 : vB (pH (some (.pair o (.pair a r)))) = o.isNum := rfl
    have p3 : pT (some (.pair o (.pair a r))) = some (.pair a r) := rfl
    rw [p1, p2, p3, Bool.true_and]
    by_cases ho : o.isNum = true
    · have e : vN (pH (some (.pair o (.pair a r)))) = o.pairs := vN_some ho
      simp only [e]
      by_cases ha : a.isNum = true
      · rw [decB_g _ _ _ ha]
        simp [ho, ha]
      · have h1 : gB o.pairs (some (.pair a r)) = false := by
          unfold gB
          split <;> simp [pB, pH, vB, ha]
        simp [ha, h1]
    · simp [ho]
theorem jN_i64 {o : Option Tr} {n : Nat} (h : n ≤ 1000000) : i64 (jN o n) := by
  rcases sg_cases o n with ⟨_, _, _, h1⟩ | ⟨_, _, _, h1⟩ | ⟨_, _, _, h1⟩ <;> rw [h1] <;> unfold i64 <;> omega
theorem OT_size {o : Option Tr} (h : SmallO o) : (OT o).size ≤ 140737488355328 := by
  cases o with
  | none => show (0 : Nat) ≤ _; omega
  | some t => have := h t rfl; show (TS t).size ≤ _; rw [TS_size]; omega
theorem gI_wf {n : Nat} {o : Option Tr} (hn : n ≤ 1000000) (h : SmallO o) : (gI n o).wf := by
  have h1 := vN_le h.hd
  have h2 := vN_le h.tl
  have h3 := vN_le h.tl.hd
  have h4 := vN_le h.tl.tl
  have h5 := OT_size h.tl
  have h6 := jN_i64 (o := pH (pT o)) h4
  have h0 : (⟨#[]⟩ : ByteArray).size ≤ 140737488355328 := by decide
  have hi : ∀ m : Nat, m ≤ 1000000 → i64 m := fun m hm => by unfold i64; omega
  have hz : i64 0 := hi 0 (by omega)
  unfold gI
  split
  · exact ⟨hz, hi _ h1, hz, hz, h5⟩
  · exact ⟨hi 2 (by omega), hi _ h1, hi _ h3, hi _ h4, h0⟩
  · exact ⟨hi 5 (by omega), hi _ h1, h6, hz, h0⟩
  · exact ⟨hi _ hn, hi _ h1, hi _ h2, hz, h0⟩
/-- The reader of an operation's fields. -/
theorem getter (n : Nat) (hn : n < 6) (o : Option Tr) (ho : SmallO o) : ∃ GF : Nat,
    (∀ w : World, Calls Try.prog 118 #[.int .i64 n] w fun e w' => ∃ f, e = .returned (.agg #[f, .func (.func GF) #[] #[]]) ∧ Below w.heap.size w w') ∧
    (∀ args w, (callFunc GF args).run Try.prog w = .ok (.enter GF args) w) ∧
    (∀ (g : Nat) (w : World), w.heap[g]? = some (.cells #[.int .i64 n, .int .i64 0, .int .i64 0, .int .i64 0, .string ⟨#[]⟩] 75 (0, 0)) →
      Calls Try.prog GF #[.pointer (some ⟨g, 0, none⟩), .string (OT o)] w fun e w' => e = .returned (.bool (gB n o)) ∧ Boxed w w' g #[.int .i64 (gI n o).op, .int .i64 (gI n o).a, .int .i64 (gI n o).b, .int .i64 (gI n o).c, .string (gI n o).tree]) := by
  have hF : ∀ {F v}, (∀ w : World, Calls Try.prog 118 #[.int .i64 v] w fun e w' => e = .returned F ∧ Below w.heap.size w w') → ∀ w : World, Calls Try.prog 118 #[.int .i64 v] w fun e w' => e = .returned F ∧ Below w.heap.size w w' := fun h => h
  match n, hn with
  | 0, _ => exact ⟨_, fun w => (fget_set w).mono fun e w' h => ⟨_, h.1, h.2⟩, enters_of Try.func147 (by kernel_rfl) rfl, fun g w hg => get_set g 0 0 0 0 ⟨#[]⟩ o ho w hg⟩
  | 1, _ => exact ⟨_, fun w => (fget_r1 w).mono fun e w' h => ⟨_, h.1, h.2⟩, enters_of Try.func167 (by kernel_rfl) rfl, fun g w hg => get_regs g 1 0 0 0 ⟨#[]⟩ o ho w hg⟩
  | 2, _ => exact ⟨_, fun w => (fget_cons w).mono fun e w' h => ⟨_, h.1, h.2⟩, enters_of Try.func149 (by kernel_rfl) rfl, fun g w hg => get_cons g 2 0 0 0 ⟨#[]⟩ o ho w hg⟩
  | 3, _ => exact ⟨_, fun w => (fget_r3 w).mono fun e w' h => ⟨_, h.1, h.2⟩, enters_of Try.func167 (by kernel_rfl) rfl, fun g w hg => get_regs g 3 0 0 0 ⟨#[]⟩ o ho w hg⟩
  | 4, _ => exact ⟨_, fun w => (fget_r4 w).mono fun e w' h => ⟨_, h.1, h.2⟩, enters_of Try.func167 (by kernel_rfl) rfl, fun g w hg => get_regs g 4 0 0 0 ⟨#[]⟩ o ho w hg⟩
  | 5, _ => exact ⟨_, fun w => (fget_jump w).mono fun e w' h => ⟨_, h.1, h.2⟩, enters_of Try.func151 (by kernel_rfl) rfl, fun g w hg => get_jump g 5 0 0 0 ⟨#[]⟩ o ho w hg⟩
end Go.Proofs.Ytdjbcmfjlfkcjaa

namespace Go.Proofs.Ytdjbcmfjlfkcjaa
open Go.RowKit

theorem drew_heap (w : World) : w.drew.heap = w.heap := rfl
/-- A block of one cell. -/
theorem one_cell {w : World} {b t : Nat} {v : Value} (h : w.heap[b]? = some (.cells #[v] t (0, 0))) : w.cell? ⟨b, 0, none⟩ = some v ∧ w.frozen? ⟨b, 0, none⟩ = false := by
  constructor
  · unfold World.cell?; rw [show w.heap[(⟨b, 0, none⟩ : Addr).block]? = _ from h]; rfl
  · unfold World.frozen?; rw [show w.heap[(⟨b, 0, none⟩ : Addr).block]? = _ from h]; rfl
theorem one_set {w : World} {b t : Nat} {v u : Value} (h : w.heap[b]? = some (.cells #[v] t (0, 0))) : (w.setCell ⟨b, 0, none⟩ u).heap[b]? = some (.cells #[u] t (0, 0)) := by
  show (w.heap.modify b _)[b]? = _
  rw [Array.getElem?_modify, if_pos rfl, h]; rfl

set_option maxHeartbeats 1000000 in
theorem itemsNext (t : Tr) (ht : t.size ≤ 2000000) (b : Nat) (v : Value) (n : Nat) (xs : List Value) (w w0 : World) (hv : w.heap[b]? = some (.cells #[v] 147 (0, 0))) (hown : w.ownsRow (b + 1) 9 1 v n xs) (hn : n ≤ 4000000)
    (B : Nat) (hb : Below B w0 w) (hB : B ≤ b) :
    Calls Try.prog 141 #[.string (TS t), .pointer (some ⟨b, 0, none⟩)] w fun e w' => e = .returned (.string (TS t.tl)) ∧
      (∃ v', w'.heap[b]? = some (.cells #[v'] 147 (0, 0)) ∧ w'.ownsRow (b + 1) 9 1 v' (n + 1) (xs ++ [.string (TS t.hd)])) ∧ Below B w0 w' := by
  have hbl : b < w.heap.size := (Array.getElem?_eq_some_iff.1 hv).1
  have hp := fun w => parts_any t ht w
  go_enter Try.func141, Try.ntmps141
  go_wp2_with fail
  refine (hp _).mono ?_
  rintro e w1 ⟨rfl, hb1⟩
  have hv1 : w1.heap[b]? = some (.cells #[v] 147 (0, 0)) := (hb1.block b hbl).trans hv
  have hown1 : w1.ownsRow (b + 1) 9 1 v n xs := by
    refine hown.kept (row := none) ⟨hb1.os, hb1.tape, hb1.output, hb1.size, fun k hk _ => hb1.block k hk⟩ ?_
    cases h : v.ownBlock with
    | none => exact .inl rfl
    | some k => exact .inr (by simp)
  have hbb : Below B w0 w1 := hb.trans (hb1.mono (by omega))
  have hbl1 : b < w1.heap.size := Nat.lt_of_lt_of_le hbl hb1.size
  clear hb1 hb hown hv hbl hp
  have hc := (one_cell hv1).1
  have hlt1 := hown1.lt
  have HL := Lib.hid hlt1; clear hlt1
  have HV := Lib.hid hv1; clear hv1
  go_wp2_with (at_builtin; refine app_new el_str rfl _ _ rfl rfl hown1 [.string (TS t.hd)] 1 rfl rfl ?c1 ?c2 ?c3 ?c4 hbb ?c5 ?_)
  case c1 => intro u hu; simp at hu; rcases hu with rfl; rfl
  case c2 => omega
  case c3 => unfold maxLen; omega
  case c4 => omega
  case c5 => omega
  intro v' w2 hown' hb' hgr
  have hv2 : w2.heap[b]? = some (.cells #[v] 147 (0, 0)) := (hgr.old b hbl1 (fun e => by have := (HL.out b e.symm).1; omega)).trans HV.out
  have hf := (one_cell hv2).2
  have hc2 := (one_cell hv2).1
  have HV2 := Lib.hid hv2
  obtain ⟨ao, cc, rfl⟩ := own_len hown'
  clear hv2 hown1 hc hgr
  go_wp2
  go_ret
  refine ⟨rfl, ⟨_, one_set HV2.out, ?_⟩, hb'.setCell hB _⟩
  exact ownsRow_setCell_below hown' (by simp) _

theorem items_bad (s : ByteArray) (hs : s.size ≤ 281474976710656) (h : isTree s = false) (w : World) :
    Calls Try.prog 115 #[.string s] w fun e w' => e = .returned (.tuple #[.slice none 0 0, .int .i64 1]) ∧ Below w.heap.size w w' := by
  go_enter Try.func115, Try.ntmps115
  go_wp2_with (go_at_call 83; refine (valid_bad s hs h _).mono ?_; rintro e w' ⟨rfl, hb1⟩)
  go_ret2
  exact ⟨rfl, hb1⟩

/-- A result that is a new slice of strings. -/
def StrsOut (B : Nat) (w0 : World) (er : Int) (l : List ByteArray) (e : Ending) (w' : World) : Prop :=
  ∃ v n, e = .returned (.tuple #[v, .int .i64 er]) ∧ w'.ownsRow B 9 1 v n (l.map Value.string) ∧ Below w0.heap.size w0 w'

set_option maxHeartbeats 1000000 in
theorem items_ok (t : Tr) (ht : t.size ≤ 2000000) (w : World) :
    Calls Try.prog 115 #[.string (TS t)] w (StrsOut w.heap.size w 0 (t.items.map TS)) := by
  have hv := fun w => valid_ok t ht w
  go_enter Try.func115, Try.ntmps115
  go_wp2_with (go_at_call 83; refine (hv _).mono ?_; rintro e w1 ⟨rfl, hb1⟩)
  clear hv
  have hv2 : (w1.alloc (.cells #[.slice none 0 0] 147)).heap[w1.heap.size]? = some (.cells #[.slice none 0 0] 147 (0, 0)) := heap_alloc_new w1 _
  have hb2 : Below w.heap.size w (w1.alloc (.cells #[.slice none 0 0] 147)) := hb1.alloc hb1.size _
  have hs2 := hb1.size
  have hx : w1.heap.size < (w1.alloc (.cells #[.slice none 0 0] 147)).heap.size := by simp
  generalize w1.alloc (.cells #[.slice none 0 0] 147) = w2 at *
  generalize w1.heap.size = b at *
  clear hb1
  have HV := Lib.hid hv2; clear hv2
  go_loopg [0] t.size (fun g s wr => ∃ (u : Tr) (done : List Tr) (v : Value) (n : Nat), s = .string (TS u) ∧ u.size ≤ t.size ∧ g = u.size ∧ n + u.size ≤ t.size ∧ Aside (t.items = done ++ u.items) ∧ Aside (wr.heap[b]? = some (.cells #[v] 147 (0, 0))) ∧ wr.ownsRow (b + 1) 9 1 v n ((done.map TS).map Value.string) ∧ Below w.heap.size w wr)
  case atStart => exact ⟨t, [], .slice none 0 0, 0, rfl, Nat.le_refl _, rfl, by omega, rfl, HV.out, World.ownsRow_nil _ _ _ _, hb2⟩
  case round =>
    obtain ⟨u, done, v, n, rfl, hu, hg, hn, hi, hv, hown, hb⟩ := hrel
    have HG := Lib.hid hg; clear hg
    clear hb2
    cases u with
    | nil =>
      have h0 := TS_nil0
      obtain ⟨ao, cc, rfl⟩ := own_len hown
      have hc := (one_cell hv.out).1
      go_wp2
      refine bodyPost_ret (v := .tuple #[.slice ao n cc, .int .i64 0]) (by simp [results, Try.results115, go_sem]) rfl ?_
      refine ⟨_, n, rfl, ?_, hb⟩
      have e : t.items = done := by rw [hi.out]; simp [Tr.items]
      rw [e]
      obtain ⟨h1, h2⟩ := hown
      refine ⟨h1, ?_⟩
      rcases h2 with h2 | ⟨g, cap, cur, h3, h4, h5⟩
      · exact .inl h2
      · exact .inr ⟨g, cap, cur, h3, by omega, h5⟩
    | pair a c =>
      have h0 := TS_pair0 a c
      have hsz : (Tr.pair a c).size = 1 + a.size + c.size := rfl
      have ha := a.size_pos
      have hp := itemsNext (.pair a c) (by omega) b v n _ wr w hv.out hown (by omega) w.heap.size hb hs2
      have hi' := hi.out
      go_wp2_with fail
      refine hp.mono ?_
      rintro e w3 ⟨rfl, ⟨v', hv', hown'⟩, hb'⟩
      have HV' : Aside (w3.heap[b]? = some (.cells #[v'] 147 (0, 0))) := hv'
      clear hv' hp hown hb hi'
      go_wp2
      go_roundg c.size
      case measure => rw [HG.out]; omega
      case rel => exact ⟨c, done ++ [a], v', n + 1, rfl, by omega, rfl, by omega, by show _ = _; rw [hi.out]; simp [Tr.items], HV', by have h9 := hown'; simp [Tr.hd] at h9 ⊢; exact h9, hb'⟩

end Go.Proofs.Ytdjbcmfjlfkcjaa

namespace Go.Proofs.Ytdjbcmfjlfkcjaa
open Go.RowKit

def t3 : Tr := .pair (.pair .nil .nil) (.pair .nil .nil)
theorem aw_head (w : World) : Calls Try.prog 143 #[.string ⟨#[49, 49, 48, 48, 49, 48, 48]⟩] w fun e w' => e = .returned (.tuple #[.string ⟨#[49, 48, 48]⟩, .int .i64 0]) ∧ Below w.heap.size w w' := head_ok t3 (by decide) w
theorem aw_tail (w : World) : Calls Try.prog 144 #[.string ⟨#[49, 49, 48, 48, 49, 48, 48]⟩] w fun e w' => e = .returned (.tuple #[.string ⟨#[49, 48, 48]⟩, .int .i64 0]) ∧ Below w.heap.size w w' := tail_ok t3 (by decide) w
theorem aw_valid (s : ByteArray) (b : Bool) (hs : s.size ≤ 281474976710656) (h : isTree s = b) (w : World) : Calls Try.prog 83 #[.string s] w fun e w' => e = .returned (.bool b) ∧ Below w.heap.size w w' := by
  have := treeValid_any s hs w; rwa [h] at this
theorem emp : ((⟨#[]⟩ : ByteArray).toList == []) = true := by rw [Lib.toList_data]; rfl
theorem refValid_at (s : ByteArray) (b : Bool) (hs : s.size ≤ 281474976710656) (h : isTree s = b) (w : World) : Calls Try.prog 36 #[.string s] w fun e w' => e = .returned (.bool b) ∧ w = w' := by
  have := refValid_any s hs w; rwa [h] at this

end Go.Proofs.Ytdjbcmfjlfkcjaa

namespace Go.Proofs.Ytdjbcmfjlfkcjaa
open Go.RowKit

theorem TS_ne0 (h t : Tr) : (!((TS (.pair h t)).toList == [48])) = true := by rw [TS_pair0]; rfl

end Go.Proofs.Ytdjbcmfjlfkcjaa

namespace Go.Proofs.Ytdjbcmfjlfkcjaa
open Go.RowKit

/-- An owned slice of strings, as a row. -/
theorem StrsOut.row {B : Nat} {w0 w' : World} {er : Int} {l : List ByteArray} {e : Ending} (h : StrsOut B w0 er l e w') (hl : ∀ s ∈ l, s.size ≤ 281474976710656) (hn : l.length ≤ 281474976710656) :
    ∃ v, e = .returned (.tuple #[v, .int .i64 er]) ∧ StrRow w' w'.heap.size v l ∧ Below w0.heap.size w0 w' := by
  obtain ⟨v, n, he, ho, hb⟩ := h
  exact ⟨v, he, StrRow.of_own ho hl hn, hb⟩
theorem items_row (t : Tr) (ht : t.size ≤ 2000000) (w : World) : Calls Try.prog 115 #[.string (TS t)] w fun e w' => ∃ v, e = .returned (.tuple #[v, .int .i64 0]) ∧ StrRow w' w'.heap.size v (t.items.map TS) ∧ Below w.heap.size w w' :=
  (items_ok t ht w).mono fun e w' h => h.row (by intro s hs; obtain ⟨u, hu, rfl⟩ := List.mem_map.1 hs; have := items_size_le t u hu; rw [TS_size]; omega) (by have := items_length_le t; simp; omega)
theorem refItems_row (t : Tr) (ht : t.size ≤ 2000000) (w : World) : Calls Try.prog 119 #[.string (TS t)] w fun e w' => ∃ v, e = .returned v ∧ StrRow w' w'.heap.size v (t.items.map TS) ∧ Below w.heap.size w w' :=
  (refItems_ok t ht w).mono fun e w' ⟨v, n, he, ho, hb⟩ => ⟨v, he, StrRow.of_own ho (by intro s hs; obtain ⟨u, hu, rfl⟩ := List.mem_map.1 hs; have := items_size_le t u hu; rw [TS_size]; omega) (by have := items_length_le t; simp; omega), hb⟩
end Go.Proofs.Ytdjbcmfjlfkcjaa


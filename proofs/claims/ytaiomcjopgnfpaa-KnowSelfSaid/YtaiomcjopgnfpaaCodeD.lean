/- The walk of code.Code. -/
import Derived.Shelf.Strings.BuilderK
import Derived.Test.YtaiomcjopgnfpaaCodeG
namespace Go.Proofs.Ytaiomcjopgnfpaa
open Go.RowKit

theorem isF_below {T e : TypeId} {B b : Nat} {bs : List Value} {w w' : World} (h : Lib.IsBuilderF T e B b bs w) (hb : Below w.heap.size w w') : Lib.IsBuilderF T e B b bs w' := by
  have own : ∀ {v : Value} {n : Nat} {xs : List Value}, w.ownsRowF B e 1 v n xs → w'.ownsRowF B e 1 v n xs := fun h => by
    refine ⟨h.1, ?_⟩
    rcases h.2 with hn | ⟨g, cap, cur, fz, hv, hbg, hg, rest⟩
    · exact .inl hn
    · exact .inr ⟨g, cap, cur, fz, hv, hbg, (hb.block g (Array.getElem?_eq_some_iff.1 hg).1).trans hg, rest⟩
  rcases h with ⟨h1, v, h2, h3, h4⟩ | ⟨h1, v, h2, h3, h4⟩
  · exact .inl ⟨h1, v, (hb.block b (Array.getElem?_eq_some_iff.1 h2).1).trans h2, own h3, h4⟩
  · exact .inr ⟨h1, v, (hb.block b (Array.getElem?_eq_some_iff.1 h2).1).trans h2, own h3, h4⟩
theorem isF_lt {T e : TypeId} {B b : Nat} {bs : List Value} {w : World} (h : Lib.IsBuilderF T e B b bs w) : b < w.heap.size := by
  rcases h with ⟨_, v, h2, _⟩ | ⟨_, v, h2, _⟩ <;> exact (Array.getElem?_eq_some_iff.1 h2).1
theorem field0 (f g : Value) (w : World) : (Instr.field 149 (.agg #[f, g]) 0).run Try.prog w = .ok f w := by
  simp [Instr.field, go_sem, part, asAgg]
theorem wstr_k (b : Nat) (bs : List Value) (s : ByteArray) (w : World) (h : Lib.IsBuilderF 141 5 b b bs w) (hlen : bs.length + s.size ≤ 140737488355328) :
    Calls Try.prog 122 #[.pointer (some ⟨b, 0, none⟩), .string s] w fun e w' => e = .returned (.tuple #[.int .i64 s.size, .nilIface]) ∧ Lib.IsBuilderF 141 5 b b (bs ++ Lib.strCells s) w' ∧ Below b w w' ∧ Lib.OthersKept 5 (some b) w w' :=
  (Any.Builder_WriteString_k Try.lays166 Try.Builder_Extra_166 b b bs s w h hlen (Nat.le_of_lt (isF_lt h))).mono fun _e _w' h => ⟨h.1, .inr h.2.1, h.2.2⟩
theorem wbyte_k (b : Nat) (bs : List Value) (c : Int) (w : World) (h : Lib.IsBuilderF 141 5 b b bs w) (hlen : bs.length + 1 ≤ 140737488355328) :
    Calls Try.prog 125 #[.pointer (some ⟨b, 0, none⟩), .int .u8 c] w fun e w' => e = .returned .nilIface ∧ Lib.IsBuilderF 141 5 b b (bs ++ [.int .u8 c]) w' ∧ Below b w w' ∧ Lib.OthersKept 5 (some b) w w' :=
  (Any.Builder_WriteByte_k Try.lays167 Try.Builder_Extra_167 b b bs c w h hlen (Nat.le_of_lt (isF_lt h))).mono fun _e _w' h => ⟨h.1, .inr h.2.1, h.2.2⟩
/-- What code.Code hands back. -/
def CodeOut (l : List Ins) : Value := if validB l = false then .tuple #[.string ⟨#[]⟩, .int .i64 1] else if 2000000 < (codeLs l).length + 1 then .tuple #[.string ⟨#[]⟩, .int .i64 3] else .tuple #[.string (codeOf l), .int .i64 0]
theorem ciL_size {x : Ins} (m : Nat) (hm : x.op = m) (hm5 : m ≤ 5) (hb : (bodyB x).size ≤ 4000000) : (ciL x).length ≤ 4000020 := by
  unfold ciL
  have h1 : (⟨#[49, 49]⟩ ++ TS (.num x.op.toNat) : ByteArray).size = 2 + (2 * m + 1) := by rw [ByteArray.size_append, num_size, hm]; rfl
  have h2 : ∀ s : ByteArray, s.data.toList.length = s.size := fun s => by simp
  rw [List.length_append, h2, h2, h1]; omega
theorem codeLs_bound (l : List Ins) (hv : validB l = true) : (codeLs l).length ≤ 4000020 * 4000 := by
  have hl := validB_len hv
  have hx : ∀ x ∈ l, (ciL x).length ≤ 4000020 := by
    intro x hx
    obtain ⟨k, hk, rfl⟩ := List.getElem_of_mem hx
    obtain ⟨PF, _, _, _, h3, m, h4, h5⟩ := fields_put (rightAll_get (validB_all hv) (List.getElem?_eq_getElem hk)) ⟨Int.natCast_nonneg _, by omega, by omega⟩
    exact ciL_size m h4 h5 h3
  have : ∀ k : List Ins, (∀ x ∈ k, (ciL x).length ≤ 4000020) → (codeLs k).length ≤ 4000020 * k.length := by
    intro k
    induction k with
    | nil => intro _; simp [codeLs]
    | cons x k ih =>
      intro h
      have h1 := ih fun y hy => h y (List.mem_cons_of_mem _ hy)
      have h2 := h x (List.mem_cons_self)
      have h3 : codeLs (x :: k) = ciL x ++ codeLs k := by simp [codeLs]
      rw [h3, List.length_append, List.length_cons]; omega
  exact Nat.le_trans (this l hx) (Nat.mul_le_mul_left _ hl)

set_option maxRecDepth 20000 in
theorem code_bad (v : Value) (l : List Ins) (w : World) (hl : InsRow w w.heap.size v l) (hv : validB l = false) :
    Calls Try.prog 95 #[v] w fun e w' => e = .returned (.tuple #[.string ⟨#[]⟩, .int .i64 1]) ∧ Below w.heap.size w w' := by
  have kv := codeValidP_at _ l w hl _ hv
  go_enter Try.func95, Try.ntmps95
  go_wp2_with fail
  refine kv.mono ?_
  rintro e w1 ⟨rfl, hb1⟩
  go_wp2
  go_ret2
  exact ⟨rfl, hb1⟩

set_option maxRecDepth 20000 in
set_option maxHeartbeats 8000000 in
theorem code_ok (v : Value) (l : List Ins) (w : World) (hl : InsRow w w.heap.size v l) (hv : validB l = true) :
    Calls Try.prog 95 #[v] w fun e w' => e = .returned (if 2000000 < (codeLs l).length + 1 then .tuple #[.string ⟨#[]⟩, .int .i64 3] else .tuple #[.string (codeOf l), .int .i64 0]) ∧ Below w.heap.size w w' := by
  have kv := codeValidP_at _ l w hl _ hv
  have hbd := codeLs_bound l hv
  have hl4 := validB_len hv
  obtain ⟨R, hR⟩ : ∃ R, (if 2000000 < (codeLs l).length + 1 then .tuple #[.string ⟨#[]⟩, .int .i64 3] else .tuple #[.string (codeOf l), .int .i64 0] : Value) = R := ⟨_, rfl⟩
  rw [hR]
  have HR := Lib.hid hR
  obtain ⟨ao, cap, rfl⟩ := hl.len
  have hn5 := hl.2.1
  obtain ⟨n, hn'⟩ : ∃ n, l.length = n := ⟨_, rfl⟩
  rw [hn'] at hl hn5 kv hl4 ⊢
  have HN := Lib.hid hn'
  have HL := Lib.hid hl
  have HV := Lib.hid hv
  have HBD := Lib.hid hbd
  clear hn' hl hv hR hbd
  go_enter Try.func95, Try.ntmps95
  go_wp2_with fail
  refine kv.mono ?_
  rintro e w1 ⟨rfl, hb1⟩
  have HB1 := Lib.hid hb1
  clear kv hb1
  have hB0 := Lib.hid (Lib.IsBuilderF.of (Lib.fresh_isBuilder 141 5 w1))
  have hb0 := Lib.hid (HB1.out.alloc HB1.out.size (.cells #[.pointer none, .slice none 0 0] 141))
  go_wp2
  obtain ⟨w2, hW⟩ : ∃ B, w1.alloc (.cells #[.pointer none, .slice none 0 0] 141) = B := ⟨_, rfl⟩
  rw [hW] at hB0 hb0
  try rw [hW]
  have hsz2 := Lib.hid HB1.out.size
  clear hW
  obtain ⟨b, hb⟩ : ∃ b, w1.heap.size = b := ⟨_, rfl⟩
  rw [hb] at hB0 hsz2 ⊢
  clear hb
  go_loopg [12] n (fun gg i wr => ∃ k : Nat, k ≤ n ∧ gg = n - k ∧ i = .int .i64 k ∧ Hid (Lib.IsBuilderF 141 5 b b (Lib.byteCells (codeLs (l.take k))) wr) ∧ Hid (Below w.heap.size w wr))
  case atStart => exact ⟨0, Nat.zero_le _, rfl, rfl, hB0, hb0⟩
  case round =>
    clear hB0 hb0
    obtain ⟨k, hk, hg, rfl, hB, hb⟩ := hrel
    have HG := Lib.hid hg; clear hg
    have hkb := Lib.hid (Nat.le_trans (codeLs_take l k) HBD.out)
    by_cases hlt : k < n
    · obtain ⟨x, hx⟩ : ∃ s, l[k]? = some s := ⟨_, List.getElem?_eq_getElem (by rw [HN.out]; exact hlt)⟩
      have hr := rightAll_get (validB_all HV.out) hx
      obtain ⟨PF, kF, kP, hent, hbs, m, hop, hm5⟩ := fields_put hr ⟨Int.natCast_nonneg _, by omega, by rw [HN.out]; omega⟩
      have hstep := Lib.hid (codeLs_succ l k hx)
      have hci : Hid (ciL x = (⟨#[49, 49]⟩ ++ TS (.num m)).data.toList ++ (bodyB x).data.toList) := Lib.hid (by unfold ciL; rw [hop]; rfl)
      obtain ⟨g, off, rfl, hg, c0, c1, c2, c3, c4⟩ := (HL.out.below hb.out).get hx
      obtain ⟨y, hy⟩ : ∃ y, bodyB x = y := ⟨_, rfl⟩
      obtain ⟨op, xa, xb, xc, xt⟩ := x
      simp only at hop kF kP c0 c1 c2 c3 c4
      subst hop
      rw [hy] at kP hbs hci
      have HK := Lib.hid hlt
      have hi0 : (0 : Int) ≤ (k : Int) := Int.natCast_nonneg _
      have hi1 : (k : Int) < (n : Int) := by omega
      have KF := Lib.hid kF
      have KP := Lib.hid kP
      have HYS := Lib.hid hbs
      have Kn := Lib.hid (fun w => cnum_any m (by omega) w)
      have hzm : (TS (.num m)).size ≤ 11 := by rw [num_size]; omega
      obtain ⟨nm, hnm⟩ : ∃ z, TS (.num m) = z := ⟨_, rfl⟩
      rw [hnm] at Kn hci hzm
      clear hx hr kF kP hbs hy hlt hnm hm5
      go_wp2_with fail
      obtain ⟨w3, hW⟩ : ∃ B, wr.alloc (.cells #[.int .i64 m, .int .i64 xa, .int .i64 xb, .int .i64 xc, .string xt] 52) = B := ⟨_, rfl⟩
      have hq3 : Below wr.heap.size wr w3 := by rw [← hW]; exact (Below.refl _ _).alloc (Nat.le_refl _) _
      have hx3 : w3.heap[wr.heap.size]? = some (.cells #[.int .i64 m, .int .i64 xa, .int .i64 xb, .int .i64 xc, .string xt] 52 (0, 0)) := by rw [← hW]; exact heap_alloc_new _ _
      rw [hW]
      clear hW c0 c1 c2 c3 c4
      have hbx : wr.heap.size ≠ b := by have := isF_lt hB.out; omega
      obtain ⟨bx, hbxe⟩ : ∃ z, wr.heap.size = z := ⟨_, rfl⟩
      have hB := Lib.hid (isF_below hB.out hq3)
      have hbA := Lib.hid (hb.out.trans (hq3.mono hb.out.size))
      rw [hbxe] at hx3 hbx ⊢
      have hx3 := Lib.hid hx3
      have hbx := Lib.hid hbx
      clear hq3 hbxe hb
      refine (Kn.out _).mono ?_
      rintro e w4 ⟨rfl, hq⟩
      have hB := Lib.hid (isF_below hB.out hq)
      have hbA := Lib.hid (hbA.out.trans (hq.mono hbA.out.size))
      have hx4 := Lib.hid ((hq.block bx (Array.getElem?_eq_some_iff.1 hx3.out).1).trans hx3.out)
      clear hq hx3
      go_wp2_with fail
      have hl1 : (Lib.byteCells (codeLs (l.take k))).length + (⟨#[49, 49]⟩ ++ nm : ByteArray).size ≤ 140737488355328 := by
        rw [Lib.byteCells_length, ByteArray.size_append]
        have h1 : (⟨#[49, 49]⟩ : ByteArray).size = 2 := rfl
        have := hkb.out
        omega
      have kw := wstr_k b (Lib.byteCells (codeLs (l.take k))) (⟨#[49, 49]⟩ ++ nm) w4 hB.out hl1
      clear hl1
      refine kw.mono ?_
      clear kw
      rintro e w5 ⟨rfl, hB5, hq5, hk5⟩
      have hsz1 : Hid ((Lib.byteCells (codeLs (l.take k)) ++ Lib.strCells (⟨#[49, 49]⟩ ++ nm)).length ≤ 4000020 * 4000 + 13) := Lib.hid (by rw [List.length_append, Lib.byteCells_length, Lib.strCells_length, ByteArray.size_append]; have h1 : (⟨#[49, 49]⟩ : ByteArray).size = 2 := rfl; have := hkb.out; omega)
      have hx5 : w5.heap[bx]? = _ := hk5 bx _ hx4.out (by simpa using hbx.out) (by intro c fz e; cases e)
      have hB := Lib.hid hB5
      have hbA := Lib.hid (hbA.out.trans (hq5.mono hsz2.out))
      have cc := (block_cells hx5).1
      have KK := Lib.hid (fun (w' : World) (hb : Below w5.heap.size w5 w') => (show w'.cell? ⟨bx, 0, none⟩ = some (.int .i64 m) ∧ w'.cell? ⟨bx, 1, none⟩ = some (.int .i64 xa) ∧ w'.cell? ⟨bx, 2, none⟩ = some (.int .i64 xb) ∧ w'.cell? ⟨bx, 3, none⟩ = some (.int .i64 xc) ∧ w'.cell? ⟨bx, 4, none⟩ = some (.string xt) from
        have hl := (Array.getElem?_eq_some_iff.1 hx5).1
        ⟨(hb.cell (p := ⟨bx, 0, none⟩) hl).trans (cc 0), (hb.cell (p := ⟨bx, 1, none⟩) hl).trans (cc 1), (hb.cell (p := ⟨bx, 2, none⟩) hl).trans (cc 2), (hb.cell (p := ⟨bx, 3, none⟩) hl).trans (cc 3), (hb.cell (p := ⟨bx, 4, none⟩) hl).trans (cc 4)⟩))
      obtain ⟨d0, d1, d2, d3, d4⟩ := KK.out w5 (Below.refl _ _)
      have KF := Lib.hid (fun (w' : World) (hb : Below w5.heap.size w5 w') => (KF.out w').mono fun e w'' h => (show ∃ g, e = .returned (.agg #[.func (.func PF) #[] #[], g]) ∧ Below w5.heap.size w5 w'' from by obtain ⟨g, h1, h2⟩ := h; exact ⟨g, h1, hb.trans (h2.mono hb.size)⟩))
      have KP := Lib.hid (fun (w' : World) (hb : Below w5.heap.size w5 w') => (KP.out w').mono fun e w'' h => (show e = .returned (.string y) ∧ Below w5.heap.size w5 w'' from ⟨h.1, hb.trans (h.2.mono hb.size)⟩))
      have KW := Lib.hid (fun (w' : World) (hb : Below w5.heap.size w5 w') => (wstr_k b _ y w' (isF_below hB.out hb) (by have := hsz1.out; have := HYS.out; omega)).mono fun e w'' h => (show e = .returned (.tuple #[.int .i64 y.size, .nilIface]) ∧ Hid (Lib.IsBuilderF 141 5 b b ((Lib.byteCells (codeLs (l.take k)) ++ Lib.strCells (⟨#[49, 49]⟩ ++ nm)) ++ Lib.strCells y) w'') ∧ Hid (Below w.heap.size w w'') from ⟨h.1, Lib.hid h.2.1, Lib.hid ((hbA.out.trans (hb.mono hbA.out.size)).trans (h.2.2.1.mono hsz2.out))⟩))
      clear hB5 hq5 hk5 hx5 cc hx4
      have hfld := fun g w => field0 (.func (.func PF) #[] #[]) g w
      go_wp2
      go_region_law ((first
        | (go_simp; (with_reducible refine (KF.out _ (by first | exact Below.refl _ _ | exact (Below.refl _ _).drew)).mono ?_); rintro e v1 ⟨g1, rfl, hb1⟩; obtain ⟨e0, e1, e2, e3, e4⟩ := KK.out _ hb1)
        | (go_simp; (with_reducible refine (KP.out _ (by first | exact hb1 | exact hb1.drew)).mono ?_); rintro e v2 ⟨rfl, hb2⟩)
        | (go_simp; (with_reducible refine (KW.out _ (by first | exact hb2 | exact hb2.drew)).mono ?_); rintro e v3 ⟨rfl, hB3, hb3⟩)))
      all_goals (
      have hnew : Hid (Lib.IsBuilderF 141 5 b b (Lib.byteCells (codeLs (l.take (k + 1)))) v3) := Lib.hid (by
        rw [hstep.out, hci.out]
        have h3 := hB3.out
        simpa [Lib.byteCells, Lib.strCells] using h3)
      clear hB3 hb1 hb2 d0 d1 d2 d3 d4 e0 e1 e2 e3 e4
      go_wp2
      go_roundg (n - (k + 1))
      case measure => rw [HG.out]; have := HK.out; omega
      case rel => exact ⟨k + 1, HK.out, rfl, by go_num, hnew, hb3⟩)
    · have hkn : k = n := by omega
      subst hkn
      rw [List.take_of_length_le (by rw [HN.out]; omega)] at hB
      go_wp2_with fail
      refine (wbyte_k b _ 48 _ hB.out (by rw [Lib.byteCells_length]; have := HBD.out; omega)).mono ?_
      rintro e w3 ⟨rfl, hB3, hq3, _⟩
      have hB3' := Lib.hid (show Lib.IsBuilderF 141 5 b b (Lib.byteCells (codeLs l ++ [48])) w3 from by simpa [Lib.byteCells] using hB3)
      have hb3 := Lib.hid (hb.out.trans (hq3.mono hsz2.out))
      have kl := Lib.hid (Any.Builder_Len_f Try.lays170 b b _ w3 hB3'.out)
      have hlen : Hid ((Lib.byteCells (codeLs l ++ [48])).length = (codeLs l).length + 1) := Lib.hid (by rw [Lib.byteCells_length]; simp)
      rw [hlen.out] at kl
      obtain ⟨N, hN⟩ : ∃ N, (codeLs l).length + 1 = N := ⟨_, rfl⟩
      rw [hN] at kl HR
      clear hB3 hq3 hN hlen
      by_cases hbig : (2000000 : Int) < (N : Int)
      · have hRe := Lib.hid (show R = .tuple #[.string ⟨#[]⟩, .int .i64 3] by rw [← HR.out, if_pos (by omega)])
        go_wp2_with fail
        refine kl.out.mono ?_
        rintro e w4 ⟨rfl, rfl⟩
        go_wp2
        refine bodyPost_ret (v := .tuple #[.string ⟨#[]⟩, .int .i64 3]) (by simp [results, Try.results95, go_sem]) rfl ?_
        exact ⟨by rw [hRe.out], hb3.out⟩
      · have hRe := Lib.hid (show R = .tuple #[.string (codeOf l), .int .i64 0] by rw [← HR.out, if_neg (by omega)])
        have ks := Lib.hid (Any.Builder_String_any_f Try.lays169 Try.Builder_Extra_169 b b _ w3 hB3'.out (Nat.le_of_lt (isF_lt hB3'.out)))
        go_wp2_with fail
        refine kl.out.mono ?_
        rintro e w4 ⟨rfl, rfl⟩
        go_wp2_with fail
        refine ks.out.mono ?_
        rintro e w5 ⟨rfl, _, hq5⟩
        go_wp2
        refine bodyPost_ret (v := .tuple #[.string (codeOf l), .int .i64 0]) (by simp [results, Try.results95, go_sem, codeOf]) rfl ?_
        exact ⟨by rw [hRe.out], hb3.out.trans (hq5.mono hsz2.out)⟩

end Go.Proofs.Ytaiomcjopgnfpaa


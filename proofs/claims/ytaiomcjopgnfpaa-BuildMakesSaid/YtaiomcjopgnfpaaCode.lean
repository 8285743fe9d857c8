/- The walks of narcissusref02.Register, Trees, Twin, Same and of code.reg. -/
import Derived.Test.YtaiomcjopgnfpaaInsP
import Derived.Test.YtaiomcjopgnfpaaRefT
import Derived.Test.YtaiomcjopgnfpaaList
import Derived.Laws.StructEq
namespace Go.Proofs.Ytaiomcjopgnfpaa
open Go.RowKit

theorem register_any (n : Int) (w : World) :
    Calls Try.prog 109 #[.int .i64 n] w fun e w' => e = .returned (.bool (regB n)) ∧ w = w' := by
  unfold regB
  by_cases h : 0 ≤ n
  · rw [decide_eq_true h]
    go_enter Try.func109, Try.ntmps109
    go_wp2
    go_ret
    exact ⟨rfl, rfl⟩
  · rw [decide_eq_false h]
    go_enter Try.func109, Try.ntmps109
    go_wp2
    go_ret
    exact ⟨rfl, rfl⟩

set_option maxHeartbeats 1000000 in
theorem trees_any (v : Value) (l : List Ins) (w : World) (B : Nat) (hl : InsRow w B v l) (hn : l.length ≤ 4000) :
    Calls Try.prog 71 #[v] w fun e w' => e = .returned (.int .i64 (trees l)) ∧ w = w' := by
  obtain ⟨ao, cap, rfl⟩ := hl.len
  obtain ⟨n, hn'⟩ : ∃ n, l.length = n := ⟨_, rfl⟩
  rw [hn'] at hn hl ⊢
  have HN := Lib.hid hn'; clear hn'
  go_enter Try.func71, Try.ntmps71
  go_wp2
  go_loopg [3, 4] n (fun g s i wr => ∃ k m : Nat, k ≤ n ∧ g = n - k ∧ i = .int .i64 k ∧ s = .int .i64 m ∧ m ≤ k * 140737488355328 ∧ Aside (m = trees (l.take k)) ∧ w = wr)
  case atStart => exact ⟨0, 0, Nat.zero_le _, rfl, rfl, rfl, by omega, rfl, rfl⟩
  case round =>
    obtain ⟨k, m, hk, hg, rfl, rfl, hm, hv, rfl⟩ := hrel
    have HG := Lib.hid hg; clear hg
    by_cases hlt : k < n
    · obtain ⟨x, hx⟩ : ∃ s, l[k]? = some s := ⟨_, List.getElem?_eq_getElem (by rw [HN.out]; exact hlt)⟩
      obtain ⟨g, off, rfl, hg, c0, c1, c2, c3, c4⟩ := hl.get hx
      have hz := (hl.wf hx).2.2.2.2
      have HX := Lib.hid hx; clear hx
      have hm2 : (m : Int) ≤ 4000 * 140737488355328 := by omega
      clear c0 c1 c2 c3
      go_wp2
      go_roundg (n - (k + 1))
      case measure => rw [HG.out]; omega
      case rel => exact ⟨k + 1, m + x.tree.size, by omega, rfl, by go_num, by go_num, by omega, (by show _ = _; rw [take_snoc' _ _ _ HX.out, trees_snoc, ← hv.out]), rfl⟩
    · go_wp2
      go_ret
      exact ⟨ret_i (by rw [hv.out, List.take_of_length_le (by rw [HN.out]; omega)]), rfl⟩

/-- A result that is a new program. -/
def ProgOut (w : World) (l : List Ins) (v : Value) (w' : World) : Prop := InsRow w' w'.heap.size v l ∧ Below w.heap.size w w'

set_option maxHeartbeats 1000000 in
theorem twin_any (v : Value) (l : List Ins) (w : World) (hl : InsRow w w.heap.size v l) :
    Calls Try.prog 33 #[v] w fun e w' => ∃ v', e = .returned v' ∧ ProgOut w l v' w' := by
  have hn := hl.2.1
  have hwf := hl.1
  have hs := hl.src
  obtain ⟨n, hn'⟩ : ∃ n, l.length = n := ⟨_, rfl⟩
  rw [hn'] at hn hs
  have HN := Lib.hid hn'; clear hn'
  have HW := Lib.hid hwf; clear hwf
  obtain ⟨ao, cap, rfl⟩ := hl.len
  rw [HN.out] at hl hs ⊢
  have hown : (w.alloc (.cells #[] 52)).ownsRow w.heap.size 52 5 (.slice (some ⟨w.heap.size, 0, none⟩) 0 0) 0 [] := World.ownsRow_lit w #[] 0 (Nat.le_refl _) (by decide) rfl
  have hs2 : Src (w.alloc (.cells #[] 52)) (.slice ao n cap) n 5 (inscells l) := by
    have := (hl.below ((Below.refl _ w).alloc (Nat.le_refl _) (.cells #[] 52))).src
    rwa [HN.out] at this
  have hb : Below w.heap.size w (w.alloc (.cells #[] 52)) := (Below.refl _ _).alloc (Nat.le_refl _) _
  go_enter Try.func33, Try.ntmps33
  go_wp2_with (at_builtin; refine app_src el_ins (vx := .slice ao n cap) rfl _ _ rfl rfl hown rfl hs2 (inscells_one l) ?c2 ?c3 (by simp) hb (Nat.le_refl _) ?_)
  case c2 => omega
  case c3 => unfold maxLen; omega
  intro v' w' hown' hb' hg
  have hrow : InsRow w' w'.heap.size v' l := InsRow.of_own (by simpa using hown') HW.out (by rw [HN.out]; exact hn)
  obtain ⟨a2, c2, rfl⟩ := own_len hown'
  clear hown hs hs2 hb hown' hg
  go_wp2
  refine bodyPost_ret (v := .slice a2 n c2) (by simp [results, Try.results33, go_sem]) rfl ?_
  exact ⟨_, rfl, hrow, hb'⟩

section
variable {P : Program} {d : Nat} {xs ys : Array Value} {f : Field} {fs : List Field} {a b : Value} {r s : Bool} {w : World}
theorem eqf_last (hn : (f.name == "_") = false) (ha : (part f.type xs f.offset).run P w = .ok a w) (hb : (part f.type ys f.offset).run P w = .ok b w) (he : (Op.equalIn d f.type a b).run P w = .ok r w) : (Op.eqFields d xs ys [f]).run P w = .ok r w := by
  have hn' : f.name ≠ "_" := by simpa using hn
  simp only [Op.eqFields, if_pos hn', Sem.run_bind, ha, hb, he, Result.andThen_ok]
  cases r <;> simp
theorem eqf_cons (hn : (f.name == "_") = false) (ha : (part f.type xs f.offset).run P w = .ok a w) (hb : (part f.type ys f.offset).run P w = .ok b w) (he : (Op.equalIn d f.type a b).run P w = .ok r w) (hr : (Op.eqFields d xs ys fs).run P w = .ok s w) : (Op.eqFields d xs ys (f :: fs)).run P w = .ok (r && s) w := by
  have hn' : f.name ≠ "_" := by simpa using hn
  rw [Op.eqFields]
  simp only [if_pos hn', Sem.run_bind, ha, hb, he, Result.andThen_ok]
  cases r
  · simp
  · simpa using hr
end
theorem ins_fields : Try.prog.underlying 52 = some (.struct (Try.prog.fieldsOf 52)) := by kernel_rfl
theorem ins_held : Try.prog.stoodInHeld 52 = false := by kernel_rfl
theorem ins_guard : Try.prog.eqGuardType Try.prog.depth 52 = false := by kernel_rfl
/-- Two instructions, field by field. -/
def insB (xo xa xb xc : Int) (xt : ByteArray) (yo ya yb yc : Int) (yt : ByteArray) : Bool := xo == yo && (xa == ya && (xb == yb && (xc == yc && (xt.toList == yt.toList))))
theorem insB_iff (x y : Ins) : insB x.op x.a x.b x.c x.tree y.op y.a y.b y.c y.tree = true ↔ x = y := by
  obtain ⟨xo, xa, xb, xc, xt⟩ := x
  obtain ⟨yo, ya, yb, yc, yt⟩ := y
  unfold insB
  simp only [Bool.and_eq_true, beq_iff_eq, Ins.mk.injEq, Lib.toList_data]
  constructor
  · rintro ⟨h1, h2, h3, h4, h5⟩; exact ⟨h1, h2, h3, h4, ba_ext h5⟩
  · rintro ⟨h1, h2, h3, h4, h5⟩; exact ⟨h1, h2, h3, h4, by rw [h5]⟩
theorem run_ins_neq (xo xa xb xc : Int) (xt : ByteArray) (yo ya yb yc : Int) (yt : ByteArray) (w : World) :
    (binOp .neq 52 (.agg #[.int .i64 xo, .int .i64 xa, .int .i64 xb, .int .i64 xc, .string xt]) (.agg #[.int .i64 yo, .int .i64 ya, .int .i64 yb, .int .i64 yc, .string yt])).run Try.prog w = .ok (.bool (!insB xo xa xb xc xt yo ya yb yc yt)) w := by
  rw [run_neq_struct, run_equalIn_struct _ _ _ _ _ ins_fields ins_held]
  obtain ⟨f0, f1, f2, f3, f4, hf, n0, n1, n2, n3, n4, o0, o1, o2, o3, o4, t0, t1, t2, t3, t4⟩ : ∃ f0 f1 f2 f3 f4 : Field, (Try.prog.fieldsOf 52).toList = [f0, f1, f2, f3, f4] ∧ (f0.name == "_") = false ∧ (f1.name == "_") = false ∧ (f2.name == "_") = false ∧ (f3.name == "_") = false ∧ (f4.name == "_") = false ∧
      f0.offset = 0 ∧ f1.offset = 1 ∧ f2.offset = 2 ∧ f3.offset = 3 ∧ f4.offset = 4 ∧ f0.type = 3 ∧ f1.type = 3 ∧ f2.type = 3 ∧ f3.type = 3 ∧ f4.type = 9 :=
    ⟨(Try.prog.fieldsOf 52)[0]!, (Try.prog.fieldsOf 52)[1]!, (Try.prog.fieldsOf 52)[2]!, (Try.prog.fieldsOf 52)[3]!, (Try.prog.fieldsOf 52)[4]!, by kernel_rfl, by kernel_rfl, by kernel_rfl, by kernel_rfl, by kernel_rfl, by kernel_rfl, by kernel_rfl, by kernel_rfl, by kernel_rfl, by kernel_rfl, by kernel_rfl, by kernel_rfl, by kernel_rfl, by kernel_rfl, by kernel_rfl, by kernel_rfl⟩
  rw [hf]
  have h := eqf_cons (P := Try.prog) (d := 9999) (w := w) (xs := #[.int .i64 xo, .int .i64 xa, .int .i64 xb, .int .i64 xc, .string xt]) (ys := #[.int .i64 yo, .int .i64 ya, .int .i64 yb, .int .i64 yc, .string yt]) (a := .int .i64 xo) (b := .int .i64 yo) n0 (by rw [t0, o0]; kernel_rfl) (by rw [t0, o0]; kernel_rfl) (by rw [t0]; exact run_equalIn_int w _ _ .i64 .i64 _ _ Try.underlying3)
    (eqf_cons (a := .int .i64 xa) (b := .int .i64 ya) n1 (by rw [t1, o1]; kernel_rfl) (by rw [t1, o1]; kernel_rfl) (by rw [t1]; exact run_equalIn_int w _ _ .i64 .i64 _ _ Try.underlying3)
    (eqf_cons (a := .int .i64 xb) (b := .int .i64 yb) n2 (by rw [t2, o2]; kernel_rfl) (by rw [t2, o2]; kernel_rfl) (by rw [t2]; exact run_equalIn_int w _ _ .i64 .i64 _ _ Try.underlying3)
    (eqf_cons (a := .int .i64 xc) (b := .int .i64 yc) n3 (by rw [t3, o3]; kernel_rfl) (by rw [t3, o3]; kernel_rfl) (by rw [t3]; exact run_equalIn_int w _ _ .i64 .i64 _ _ Try.underlying3)
    (eqf_last (a := .string xt) (b := .string yt) n4 (by rw [t4, o4]; kernel_rfl) (by rw [t4, o4]; kernel_rfl) (by rw [t4]; exact run_equalIn_string w _ _ _ _ Try.underlying9)))))
  rw [h]; rfl

/-- Two programs are equal. -/
def sameP (a b : List Ins) : Bool := decide (a = b)
def insEq (x y : Ins) : Bool := decide (x = y)
set_option maxHeartbeats 2000000 in
theorem sameP_any (v1 v2 : Value) (l1 l2 : List Ins) (w : World) (B : Nat) (hl1 : InsRow w B v1 l1) (hl2 : InsRow w B v2 l2) :
    Calls Try.prog 35 #[v1, v2] w fun e w' => e = .returned (.bool (sameP l1 l2)) ∧ ∃ nq, w' = w.drewN nq := by
  obtain ⟨ao1, cap1, rfl⟩ := hl1.len
  obtain ⟨ao2, cap2, rfl⟩ := hl2.len
  obtain ⟨n1, hn1⟩ : ∃ n, l1.length = n := ⟨_, rfl⟩
  obtain ⟨n2, hn2⟩ : ∃ n, l2.length = n := ⟨_, rfl⟩
  have hb1 := hl1.2.1
  have hb2 := hl2.2.1
  rw [hn1] at hl1 hb1 ⊢
  rw [hn2] at hl2 hb2 ⊢
  have HN1 := Lib.hid hn1; clear hn1
  have HN2 := Lib.hid hn2; clear hn2
  obtain ⟨r, hr⟩ : ∃ r, sameP l1 l2 = r := ⟨_, rfl⟩
  rw [hr]
  have HR := Lib.hid hr; clear hr
  by_cases hne : n1 = n2
  · subst hne
    go_enter Try.func35, Try.ntmps35
    go_wp2
    go_loopg [5] n1 (fun g i wr => ∃ k q : Nat, k ≤ n1 ∧ g = n1 - k ∧ i = .int .i64 k ∧ Aside (l1.take k = l2.take k) ∧ wr = w.drewN q)
    case atStart => exact ⟨0, 0, Nat.zero_le _, rfl, rfl, rfl, rfl⟩
    case round =>
      obtain ⟨k, q, hk, hg, rfl, hv, rfl⟩ := hrel
      have HG := Lib.hid hg; clear hg
      by_cases hlt : k < n1
      · obtain ⟨x, hs⟩ : ∃ s, l1[k]? = some s := ⟨_, List.getElem?_eq_getElem (by rw [HN1.out]; exact hlt)⟩
        obtain ⟨y, hu⟩ : ∃ s, l2[k]? = some s := ⟨_, List.getElem?_eq_getElem (by rw [HN2.out]; exact hlt)⟩
        obtain ⟨g1, off1, rfl, hg1, p0, p1, p2, p3, p4⟩ := hl1.get hs
        obtain ⟨g2, off2, rfl, hg2, q0, q1, q2, q3, q4⟩ := hl2.get hu
        have hi0 : (0 : Int) ≤ (k : Int) := Int.natCast_nonneg _
        have hi1 : (k : Int) < (n1 : Int) := by omega
        have HS := Lib.hid hs; have HU := Lib.hid hu
        clear hs hu
        have hq := fun w => run_ins_neq x.op x.a x.b x.c x.tree y.op y.a y.b y.c y.tree w
        have hgd := ins_guard
        have hiff := Lib.hid (insB_iff x y)
        cases heq : insB x.op x.a x.b x.c x.tree y.op y.a y.b y.c y.tree with
        | true =>
          have hn : Hid (l1.take (k + 1) = l2.take (k + 1)) := by
            show _ = _
            rw [take_snoc' _ _ _ HS.out, take_snoc' _ _ _ HU.out, hv.out, hiff.out.1 heq]
          rw [heq] at hq
          go_wp2
          go_quiet (fail)
          go_wp2
          go_roundg (n1 - (k + 1))
          case measure => rw [HG.out]; omega
          case rel => exact ⟨k + 1, _, by omega, rfl, by go_num, hn, rfl⟩
        | false =>
          have hn : Hid (sameP l1 l2 = false) := by
            refine decide_eq_false fun e => ?_
            subst e
            have := HS.out; rw [HU.out] at this
            simp only [Option.some.injEq] at this; subst this
            rw [hiff.out.2 rfl] at heq; cases heq
          rw [heq] at hq
          go_wp2
          go_quiet (fail)
          go_wp2
          go_ret
          exact ⟨by rw [← HR.out, hn.out]; rfl, q + nq, by rw [World.drewN_drewN]⟩
      · have hn : Hid (sameP l1 l2 = true) := by
          refine decide_eq_true ?_
          have := hv.out
          rwa [List.take_of_length_le (by rw [HN1.out]; omega), List.take_of_length_le (by rw [HN2.out]; omega)] at this
        go_wp2
        go_ret
        exact ⟨by rw [← HR.out, hn.out]; rfl, _, rfl⟩
  · have hb : ((n1 : Int) != (n2 : Int)) = true := by rw [bne_iff_ne]; omega
    have hn : Hid (sameP l1 l2 = false) := decide_eq_false fun e => hne (by rw [← HN1.out, ← HN2.out, e])
    go_enter Try.func35, Try.ntmps35
    go_wp2
    go_ret
    exact ⟨by rw [← HR.out, hn.out]; rfl, 0, rfl⟩

end Go.Proofs.Ytaiomcjopgnfpaa

/- law05: SpecMeta, SpecAgain, SpecFound. -/
import Derived.Test.YtlaeljkjdfffjaaMeta3
import Derived.Test.YtlaeljkjdfffjaaMB3
import Derived.Test.YtlaeljkjdfffjaaMB2
import Derived.Test.YtlaeljkjdfffjaaDec5
namespace Go.Proofs.Ytlaeljkjdfffjaa
open Go.RowKit

set_option maxRecDepth 20000 in
set_option maxHeartbeats 8000000 in
theorem spm_a (a : ByteArray) (ha : a.size ≤ 140737488355328) (b : ByteArray) (hb : b.size ≤ 140737488355328) (HA : Hid (isTree a = false)) (w : World) : Calls Try.prog 9 #[.string a, .string b] w fun e w' => e = .returned (.bool true) ∧ Below w.heap.size w w' := by
  have ch := Lib.hid (Below.refl w.heap.size w)
  go_enter Try.func9, Try.ntmps9
  go_wp2_with fail
  refine (tvalid_at a ha false HA.out _).mono ?_
  rintro e w1 ⟨rfl, hq⟩
  replace ch := Lib.hid (ch.out.trans (hq.mono ch.out.size))
  clear hq
  go_wp2_with fail
  refine (awake05 _).mono ?_
  rintro e w2 ⟨rfl, hq⟩
  replace ch := Lib.hid (ch.out.trans (hq.mono ch.out.size))
  clear hq
  go_wp2
  go_ret
  exact ⟨rfl, ch.out⟩

set_option maxRecDepth 20000 in
set_option maxHeartbeats 8000000 in
theorem spm_b (a : ByteArray) (ha : a.size ≤ 140737488355328) (b : ByteArray) (hb : b.size ≤ 140737488355328) (HA : Hid (isTree a = true)) (HB : Hid (isTree b = false)) (w : World) : Calls Try.prog 9 #[.string a, .string b] w fun e w' => e = .returned (.bool true) ∧ Below w.heap.size w w' := by
  have ch := Lib.hid (Below.refl w.heap.size w)
  go_enter Try.func9, Try.ntmps9
  go_wp2_with fail
  refine (tvalid_at a ha true HA.out _).mono ?_
  rintro e w1 ⟨rfl, hq⟩
  replace ch := Lib.hid (ch.out.trans (hq.mono ch.out.size))
  clear hq
  go_wp2_with fail
  refine (tvalid_at b hb false HB.out _).mono ?_
  rintro e w2 ⟨rfl, hq⟩
  replace ch := Lib.hid (ch.out.trans (hq.mono ch.out.size))
  clear hq
  go_wp2_with fail
  refine (awake05 _).mono ?_
  rintro e w3 ⟨rfl, hq⟩
  replace ch := Lib.hid (ch.out.trans (hq.mono ch.out.size))
  clear hq
  go_wp2
  go_ret
  exact ⟨rfl, ch.out⟩

set_option maxRecDepth 20000 in
set_option maxHeartbeats 8000000 in
theorem spm_c (a : ByteArray) (ha : a.size ≤ 140737488355328) (b : ByteArray) (hb : b.size ≤ 140737488355328) (HA : Hid (isTree a = true)) (HB : Hid (isTree b = true)) (w : World) : Calls Try.prog 9 #[.string a, .string b] w fun e w' => e = .returned (.bool true) ∧ Below w.heap.size w w' := by
  have ch := Lib.hid (Below.refl w.heap.size w)
  go_enter Try.func9, Try.ntmps9
  go_wp2_with fail
  refine (tvalid_at a ha true HA.out _).mono ?_
  rintro e w1 ⟨rfl, hq⟩
  replace ch := Lib.hid (ch.out.trans (hq.mono ch.out.size))
  clear hq
  go_wp2_with fail
  refine (tvalid_at b hb true HB.out _).mono ?_
  rintro e w2 ⟨rfl, hq⟩
  replace ch := Lib.hid (ch.out.trans (hq.mono ch.out.size))
  clear hq
  have za := Lib.hid (str_tree a HA.out).2
  have zb := Lib.hid (str_tree b HB.out).2
  go_wp2_with fail
  refine (read_str a HA.out _).mono ?_
  rintro e w3 ⟨pa, rfl, hx, hq⟩
  replace ch := Lib.hid (ch.out.trans (hq.mono ch.out.size))
  clear hq
  replace hx := Lib.hid hx
  go_wp2_with fail
  refine (read_str b HB.out _).mono ?_
  rintro e w4 ⟨pb, rfl, hy, hq⟩
  replace hx := Lib.hid (hx.out.kept (Kept.below hq))
  replace ch := Lib.hid (ch.out.trans (hq.mono ch.out.size))
  clear hq
  replace hy := Lib.hid hy
  go_wp2_with fail
  refine (meta5_any _ _ _ _ hx.out hy.out za.out zb.out).mono ?_
  rintro e w5 ⟨q, bz, rfl, hQ, hq⟩
  replace hx := Lib.hid (hx.out.kept (Kept.below hq))
  replace hy := Lib.hid (hy.out.kept (Kept.below hq))
  replace ch := Lib.hid (ch.out.trans (hq.mono ch.out.size))
  clear hq
  cases bz with
  | false =>
    clear hQ
    go_wp2_with fail
    refine (awake05 _).mono ?_
    rintro e w6 ⟨rfl, hq⟩
    replace hx := Lib.hid (hx.out.kept (Kept.below hq))
    replace hy := Lib.hid (hy.out.kept (Kept.below hq))
    replace ch := Lib.hid (ch.out.trans (hq.mono ch.out.size))
    clear hq
    go_wp2
    go_ret
    exact ⟨rfl, ch.out⟩
  | true =>
    obtain ⟨hQ1, hz⟩ := hQ rfl
    clear hQ
    have hQ := Lib.hid hQ1
    clear hQ1
    replace hz := Lib.hid hz
    go_wp2_with fail
    refine (rlist_any _ _ _ _ hx.out hy.out za.out zb.out).mono ?_
    rintro e w6 ⟨g, rfl, hL, hq⟩
    replace hx := Lib.hid (hx.out.kept (Kept.below hq))
    replace hy := Lib.hid (hy.out.kept (Kept.below hq))
    replace hQ := Lib.hid (hQ.out.kept (Kept.below hq))
    replace ch := Lib.hid (ch.out.trans (hq.mono ch.out.size))
    clear hq
    replace hL := Lib.hid hL
    go_wp2_with fail
    refine (equal_self _ _ _ _ hQ.out hL.out (by have := hz.out; omega)).mono ?_
    rintro e w7 ⟨rfl, hq⟩
    replace hx := Lib.hid (hx.out.kept (Kept.below hq))
    replace hy := Lib.hid (hy.out.kept (Kept.below hq))
    replace hQ := Lib.hid (hQ.out.kept (Kept.below hq))
    replace hL := Lib.hid (hL.out.kept (Kept.below hq))
    replace ch := Lib.hid (ch.out.trans (hq.mono ch.out.size))
    clear hq
    go_wp2_with fail
    refine (awake05 _).mono ?_
    rintro e w8 ⟨rfl, hq⟩
    replace hx := Lib.hid (hx.out.kept (Kept.below hq))
    replace hy := Lib.hid (hy.out.kept (Kept.below hq))
    replace hQ := Lib.hid (hQ.out.kept (Kept.below hq))
    replace hL := Lib.hid (hL.out.kept (Kept.below hq))
    replace ch := Lib.hid (ch.out.trans (hq.mono ch.out.size))
    clear hq
    go_wp2
    go_ret
    exact ⟨rfl, ch.out⟩

theorem law_SpecMeta (a : ByteArray) (ha : a.size ≤ 140737488355328) (b : ByteArray) (hb : b.size ≤ 140737488355328) (w : World) :
    Calls Try.prog 9 #[.string a, .string b] w fun e w' => e = .returned (.bool true) ∧ Below w.heap.size w w' := by
  cases h1 : isTree a with
  | false => exact spm_a a ha b hb (Lib.hid h1) w
  | true =>
    cases h2 : isTree b with
    | false => exact spm_b a ha b hb (Lib.hid h1) (Lib.hid h2) w
    | true => exact spm_c a ha b hb (Lib.hid h1) (Lib.hid h2) w

end Go.Proofs.Ytlaeljkjdfffjaa


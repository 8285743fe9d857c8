/- law05: meta, and ref05.List. -/
import Derived.Test.YtlaeljkjdfffjaaMeta1
import Derived.Test.YtlaeljkjdfffjaaFollow7
import Derived.Test.YtlaeljkjdfffjaaDef10
import Derived.Test.YtlaeljkjdfffjaaKnowI
namespace Go.Proofs.Ytlaeljkjdfffjaa
open Go.RowKit

theorem node_count {w : World} {a b : Tr} {g : Nat} (h : NodeP 58 w (.pair a b) (.pointer (some ⟨g, 0, none⟩))) (N : Nat) (hN : (Tr.pair a b).size = N) : w.cell? ⟨g, 2, none⟩ = some (.int .i64 (N : Nat)) := by
  obtain ⟨g', x, y, e, h1, h2, h3, h4, h5⟩ := h.cells
  cases e
  rw [← hN]
  exact h4
theorem rcons_at {w : World} {a b : Tr} {x y : Value} (ha : NodeP 58 w a x) (hb : NodeP 58 w b y) (h1 : a.size ≤ 4000001) (h2 : b.size ≤ 4000001) :
    Calls Try.prog 93 #[x, y] w fun e w' => ∃ g, e = .returned (.pointer (some ⟨g, 0, none⟩)) ∧ NodeP 58 w' (.pair a b) (.pointer (some ⟨g, 0, none⟩)) ∧ Below w.heap.size w w' := by
  refine (rnodeCons_ok a b x y w ha hb h1 h2).mono ?_
  rintro e w' ⟨p, rfl, hn, hq⟩
  obtain ⟨g, _, _, e, -⟩ := hn.cells
  cases e
  exact ⟨g, rfl, hn, hq⟩

def MetaOut (w : World) (t d : Tr) (e : Ending) (w' : World) : Prop := ∃ q b, e = .returned (.tuple #[.pointer q, .bool b, .bool (!b)]) ∧ (b = true → NodeP 58 w' (metaT t d) (.pointer q) ∧ (metaT t d).size ≤ 2000000) ∧ Below w.heap.size w w'
set_option maxRecDepth 20000 in
set_option maxHeartbeats 4000000 in
theorem meta5_large {w : World} (t d : Tr) (x y : Value) (hhx : NodeP 58 w t x) (hhy : NodeP 58 w d y) (hht : t.size ≤ 2000000) (hhd : d.size ≤ 2000000) (N : Nat) (HN : Hid ((Tr.pair t d).size = N)) (hc : (2000000 : Int) < (N : Int)) : Calls Try.prog 40 #[x, y] w (MetaOut w t d) := by
  have hx := Lib.hid hhx
  have hy := Lib.hid hhy
  have ht := Lib.hid (show t.size ≤ 4000001 by omega)
  have hd := Lib.hid (show d.size ≤ 4000001 by omega)
  clear hhx hhy hht hhd
  have ch := Lib.hid (Below.refl w.heap.size w)
  go_enter Try.func40, Try.ntmps40
  go_wp2_with fail
  refine (meta_any _).mono ?_
  rintro e w1 ⟨vm, rfl, hm, hq⟩
  replace hx := Lib.hid (hx.out.kept (Kept.below hq))
  replace hy := Lib.hid (hy.out.kept (Kept.below hq))
  replace ch := Lib.hid (ch.out.trans (hq.mono ch.out.size))
  clear hq
  obtain ⟨ma, mc, rfl⟩ := hm.slice
  replace hm := Lib.hid (hm.row (by decide))
  go_wp2_with fail
  refine (rcons_at hx.out hy.out ht.out hd.out).mono ?_
  rintro e w2 ⟨g, rfl, hn, hq⟩
  replace hx := Lib.hid (hx.out.kept (Kept.below hq))
  replace hy := Lib.hid (hy.out.kept (Kept.below hq))
  replace hm := Lib.hid ((hm.out.below hq).mono hq.size)
  replace ch := Lib.hid (ch.out.trans (hq.mono ch.out.size))
  clear hq
  replace hn := Lib.hid hn
  go_wp2_with fail
  refine (cvalid_at true meta_valid hm.out).mono ?_
  rintro e w3 ⟨rfl, hq⟩
  replace hx := Lib.hid (hx.out.kept (Kept.below hq))
  replace hy := Lib.hid (hy.out.kept (Kept.below hq))
  replace hm := Lib.hid ((hm.out.below hq).mono hq.size)
  replace hn := Lib.hid (hn.out.kept (Kept.below hq))
  replace ch := Lib.hid (ch.out.trans (hq.mono ch.out.size))
  clear hq
  have cn := node_count hn.out N HN.out
  go_wp2_with fail
  clear cn
  refine (cvalid_at true meta_valid hm.out).mono ?_
  rintro e w4 ⟨rfl, hq⟩
  replace hx := Lib.hid (hx.out.kept (Kept.below hq))
  replace hy := Lib.hid (hy.out.kept (Kept.below hq))
  replace hm := Lib.hid ((hm.out.below hq).mono hq.size)
  replace hn := Lib.hid (hn.out.kept (Kept.below hq))
  replace ch := Lib.hid (ch.out.trans (hq.mono ch.out.size))
  clear hq
  go_wp2
  go_ret3
  exact ⟨none, false, rfl, fun h => (by cases h), ch.out⟩

set_option maxRecDepth 20000 in
set_option maxHeartbeats 4000000 in
theorem meta5_done {w : World} (t d : Tr) (x y : Value) (hhx : NodeP 58 w t x) (hhy : NodeP 58 w d y) (hht : t.size ≤ 2000000) (hhd : d.size ≤ 2000000) (N : Nat) (HN : Hid ((Tr.pair t d).size = N)) (HP : Hid ((Tr.pair t d).size ≤ 2000000)) (hc : ¬ (2000000 : Int) < (N : Int)) (S : St) (HR : Hid (goF metaL 100 0 (startS (.pair t d)) = .done S 13 ∧ getR S.regs 0 = metaT t d)) (HZ : Hid ((metaT t d).size ≤ 2000000)) : Calls Try.prog 40 #[x, y] w (MetaOut w t d) := by
  have hx := Lib.hid hhx
  have hy := Lib.hid hhy
  have ht := Lib.hid (show t.size ≤ 4000001 by omega)
  have hd := Lib.hid (show d.size ≤ 4000001 by omega)
  clear hhx hhy hht hhd
  have ch := Lib.hid (Below.refl w.heap.size w)
  go_enter Try.func40, Try.ntmps40
  go_wp2_with fail
  refine (meta_any _).mono ?_
  rintro e w1 ⟨vm, rfl, hm, hq⟩
  replace hx := Lib.hid (hx.out.kept (Kept.below hq))
  replace hy := Lib.hid (hy.out.kept (Kept.below hq))
  replace ch := Lib.hid (ch.out.trans (hq.mono ch.out.size))
  clear hq
  obtain ⟨ma, mc, rfl⟩ := hm.slice
  replace hm := Lib.hid (hm.row (by decide))
  go_wp2_with fail
  refine (rcons_at hx.out hy.out ht.out hd.out).mono ?_
  rintro e w2 ⟨g, rfl, hn, hq⟩
  replace hx := Lib.hid (hx.out.kept (Kept.below hq))
  replace hy := Lib.hid (hy.out.kept (Kept.below hq))
  replace hm := Lib.hid ((hm.out.below hq).mono hq.size)
  replace ch := Lib.hid (ch.out.trans (hq.mono ch.out.size))
  clear hq
  replace hn := Lib.hid hn
  go_wp2_with fail
  refine (cvalid_at true meta_valid hm.out).mono ?_
  rintro e w3 ⟨rfl, hq⟩
  replace hx := Lib.hid (hx.out.kept (Kept.below hq))
  replace hy := Lib.hid (hy.out.kept (Kept.below hq))
  replace hm := Lib.hid ((hm.out.below hq).mono hq.size)
  replace hn := Lib.hid (hn.out.kept (Kept.below hq))
  replace ch := Lib.hid (ch.out.trans (hq.mono ch.out.size))
  clear hq
  have cn := node_count hn.out N HN.out
  go_wp2_with fail
  clear cn
  refine (load_any _ metaL _ hm.out meta_valid).mono ?_
  rintro e w4 ⟨gm, tv, rfl, hM, hq⟩
  replace hx := Lib.hid (hx.out.kept (Kept.below hq))
  replace hy := Lib.hid (hy.out.kept (Kept.below hq))
  replace hm := Lib.hid ((hm.out.below hq).mono hq.size)
  replace hn := Lib.hid (hn.out.kept (Kept.below hq))
  replace ch := Lib.hid (ch.out.trans (hq.mono ch.out.size))
  clear hq
  replace hM := Lib.hid hM
  go_wp2_with fail
  refine (rrun_done 100 _ rfl (by omega) HR.out.1 hM.out hn.out HP.out meta_valid).mono ?_
  rintro e w5 ⟨q, rfl, hQ, hq⟩
  replace hx := Lib.hid (hx.out.kept (Kept.below hq))
  replace hy := Lib.hid (hy.out.kept (Kept.below hq))
  replace hm := Lib.hid ((hm.out.below hq).mono hq.size)
  replace hn := Lib.hid (hn.out.kept (Kept.below hq))
  replace hM := Lib.hid (mach_lift hM.out hq)
  replace ch := Lib.hid (ch.out.trans (hq.mono ch.out.size))
  clear hq
  replace hQ := Lib.hid hQ
  have cn := node_count hn.out N HN.out
  go_wp2_with fail
  go_quiet (fail)
  all_goals (
    go_wp2
    go_ret3
    exact ⟨q, true, rfl, fun _ => ⟨by rw [← HR.out.2]; exact hQ.out.kept (Kept.below (below_drewN (Below.refl _ _) _)), HZ.out⟩, below_drewN ch.out _⟩)

set_option maxRecDepth 20000 in
set_option maxHeartbeats 4000000 in
theorem meta5_big {w : World} (t d : Tr) (x y : Value) (hhx : NodeP 58 w t x) (hhy : NodeP 58 w d y) (hht : t.size ≤ 2000000) (hhd : d.size ≤ 2000000) (N : Nat) (HN : Hid ((Tr.pair t d).size = N)) (HP : Hid ((Tr.pair t d).size ≤ 2000000)) (hc : ¬ (2000000 : Int) < (N : Int)) (HR : Hid (goF metaL 100 0 (startS (.pair t d)) = .big)) (hS : (200000 : Int) < (N : Int)) : Calls Try.prog 40 #[x, y] w (MetaOut w t d) := by
  have hx := Lib.hid hhx
  have hy := Lib.hid hhy
  have ht := Lib.hid (show t.size ≤ 4000001 by omega)
  have hd := Lib.hid (show d.size ≤ 4000001 by omega)
  clear hhx hhy hht hhd
  have ch := Lib.hid (Below.refl w.heap.size w)
  go_enter Try.func40, Try.ntmps40
  go_wp2_with fail
  refine (meta_any _).mono ?_
  rintro e w1 ⟨vm, rfl, hm, hq⟩
  replace hx := Lib.hid (hx.out.kept (Kept.below hq))
  replace hy := Lib.hid (hy.out.kept (Kept.below hq))
  replace ch := Lib.hid (ch.out.trans (hq.mono ch.out.size))
  clear hq
  obtain ⟨ma, mc, rfl⟩ := hm.slice
  replace hm := Lib.hid (hm.row (by decide))
  go_wp2_with fail
  refine (rcons_at hx.out hy.out ht.out hd.out).mono ?_
  rintro e w2 ⟨g, rfl, hn, hq⟩
  replace hx := Lib.hid (hx.out.kept (Kept.below hq))
  replace hy := Lib.hid (hy.out.kept (Kept.below hq))
  replace hm := Lib.hid ((hm.out.below hq).mono hq.size)
  replace ch := Lib.hid (ch.out.trans (hq.mono ch.out.size))
  clear hq
  replace hn := Lib.hid hn
  go_wp2_with fail
  refine (cvalid_at true meta_valid hm.out).mono ?_
  rintro e w3 ⟨rfl, hq⟩
  replace hx := Lib.hid (hx.out.kept (Kept.below hq))
  replace hy := Lib.hid (hy.out.kept (Kept.below hq))
  replace hm := Lib.hid ((hm.out.below hq).mono hq.size)
  replace hn := Lib.hid (hn.out.kept (Kept.below hq))
  replace ch := Lib.hid (ch.out.trans (hq.mono ch.out.size))
  clear hq
  have cn := node_count hn.out N HN.out
  go_wp2_with fail
  clear cn
  refine (load_any _ metaL _ hm.out meta_valid).mono ?_
  rintro e w4 ⟨gm, tv, rfl, hM, hq⟩
  replace hx := Lib.hid (hx.out.kept (Kept.below hq))
  replace hy := Lib.hid (hy.out.kept (Kept.below hq))
  replace hm := Lib.hid ((hm.out.below hq).mono hq.size)
  replace hn := Lib.hid (hn.out.kept (Kept.below hq))
  replace ch := Lib.hid (ch.out.trans (hq.mono ch.out.size))
  clear hq
  replace hM := Lib.hid hM
  go_wp2_with fail
  refine (rrun_big 100 _ rfl (by omega) HR.out hM.out hn.out HP.out meta_valid).mono ?_
  rintro e w5 ⟨q, rfl, hQ, hq⟩
  replace hx := Lib.hid (hx.out.kept (Kept.below hq))
  replace hy := Lib.hid (hy.out.kept (Kept.below hq))
  replace hm := Lib.hid ((hm.out.below hq).mono hq.size)
  replace hn := Lib.hid (hn.out.kept (Kept.below hq))
  replace hM := Lib.hid (mach_lift hM.out hq)
  replace ch := Lib.hid (ch.out.trans (hq.mono ch.out.size))
  clear hq
  replace hQ := Lib.hid hQ
  have cn := node_count hn.out N HN.out
  go_wp2_with fail
  go_quiet (fail)
  all_goals (
    go_wp2
    go_ret3
    exact ⟨q, false, rfl, fun h => (by cases h), below_drewN ch.out _⟩)

theorem meta5_any {w : World} (t d : Tr) (x y : Value) (hhx : NodeP 58 w t x) (hhy : NodeP 58 w d y) (hht : t.size ≤ 2000000) (hhd : d.size ≤ 2000000) : Calls Try.prog 40 #[x, y] w (MetaOut w t d) := by
  by_cases hp : (Tr.pair t d).size ≤ 2000000
  · rcases meta_goF t d hp 100 (by omega) with ⟨S, h1, h2, h3⟩ | ⟨h1, h2⟩
    · exact meta5_done t d x y hhx hhy hht hhd _ (Lib.hid rfl) (Lib.hid hp) (by omega) S (Lib.hid ⟨h1, h2⟩) (Lib.hid h3)
    · exact meta5_big t d x y hhx hhy hht hhd _ (Lib.hid rfl) (Lib.hid hp) (by omega) (Lib.hid h1) (by omega)
  · exact meta5_large t d x y hhx hhy hht hhd _ (Lib.hid rfl) (by omega)

end Go.Proofs.Ytlaeljkjdfffjaa


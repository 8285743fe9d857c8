/- The walks of narcissuslaw03: RunSteps. code.fields: how the fields of an instruction are read. code.fields: how the fields of a jump are read. code.fields: its readers; the instruction that they read. The walks of tree.Items and its closure. The walks of narcissuslaw01: awake and TreeConses. The walks of the laws of narcissuslaw01. The walk of TreeReads. code.Decode. law05: SpecMeta, SpecAgain, SpecFound. law06: UnivRuns, UnivHeads, UnivItself, UnivForms. law06: UnivHeads, UnivItself, UnivForms. -/
import Derived.Test.YtlaeljkjdfffjaaCopied
import Derived.Test.YtlaeljkjdfffjaaRunStep
import Derived.Test.YtlaeljkjdfffjaaDec1
import Derived.Test.YtlaeljkjdfffjaaMB2
import Derived.Test.YtlaeljkjdfffjaaMB0
import Derived.Test.YtlaeljkjdfffjaaMB1
import Derived.Test.YtlaeljkjdfffjaaMB3
import Derived.Test.YtlaeljkjdfffjaaMeta3
import Derived.Test.YtlaeljkjdfffjaaUni7
namespace Go.Proofs.Ytlaeljkjdfffjaa
open Go.RowKit

/-- A box of two cells behind a region: newly made there, or made before and written. -/
structure BoxFin (W0 A B : World) (b T : Nat) (x y : Value) : Prop where
  blk : B.heap[b]? = some (.cells #[x, y] T (0, 0))
  els : Els b A B
  was : A.heap[b]? = none ∨ ∃ x y T, A.heap[b]? = some (.cells #[x, y] T (0, 0)) ∧ (∀ s, x ≠ .string s) ∧ ∀ s, y ≠ .string s
  le : W0.heap.size ≤ b
theorem BoxFin.alloc {W0 A : World} (T : Nat) (x y : Value) (h : W0.heap.size ≤ A.heap.size) : BoxFin W0 A (A.alloc (.cells #[x, y] T)) A.heap.size T x y :=
  ⟨heap_alloc_new A _, ⟨rfl, rfl, rfl, by simp, fun k hk _ => Below.heap_alloc _ _ _ hk⟩, .inl (by simp), h⟩
theorem BoxFin.set {W0 A : World} {b T : Nat} {x0 y0 : Value} (x y : Value) (h : A.heap[b]? = some (.cells #[x0, y0] T (0, 0))) (hx : ∀ s, x0 ≠ .string s) (hy : ∀ s, y0 ≠ .string s) (hb : W0.heap.size ≤ b) : BoxFin W0 A ((A.setCell ⟨b, 0, none⟩ x).setCell ⟨b, 1, none⟩ y) b T x y := by
  have h1 := set_blk h 0 x
  have h2 := set_blk h1 1 y
  simp only [List.setIfInBounds_toArray, List.set_cons_zero, List.set_cons_succ] at h2
  exact ⟨h2, ((Els.refl b A).set 0 x).set 1 y, .inr ⟨_, _, _, h, hx, hy⟩, hb⟩
theorem BoxFin.below {W0 A B : World} {b T : Nat} {x y : Value} (h : BoxFin W0 A B b T x y) (hb : Below W0.heap.size W0 A) : Below W0.heap.size W0 B := hb.trans (h.els.below h.le hb.size)

@[elab_as_elim] theorem BoxFin.elimW {W0 A : World} {T : Nat} {x y : Value} {motive : World → Prop} {B : World} {b : Nat} (h : BoxFin W0 A B b T x y) (k : ∀ B, Hid (BoxFin W0 A B b T x y) → motive B) : motive B := k B (Lib.hid h)
@[elab_as_elim] theorem BoxFin.elimB {W0 A : World} {T : Nat} {x y : Value} {motive : Nat → Prop} {B : World} {b : Nat} (h : BoxFin W0 A B b T x y) (k : ∀ b, Hid (BoxFin W0 A B b T x y) → motive b) : motive b := k b (Lib.hid h)
end Go.Proofs.Ytlaeljkjdfffjaa

namespace Go.Proofs.Ytlaeljkjdfffjaa
open Go.RowKit

/-- The box of an instruction holds these cells; all else is kept. -/
structure Boxed (A B : World) (g : Nat) (cs : Array Value) : Prop where
  box : B.heap[g]? = some (.cells cs 41 (0, 0))
  size : A.heap.size ≤ B.heap.size
  rest : ∀ k, k < A.heap.size → k ≠ g → B.heap[k]? = A.heap[k]?
  os : B.os = A.os
  tape : B.tape = A.tape
  output : B.output = A.output
theorem Boxed.of {A B : World} {g : Nat} {cs : Array Value} (hb : Below A.heap.size A B) (h : A.heap[g]? = some (.cells cs 41 (0, 0))) : Boxed A B g cs :=
  ⟨blk_lift hb h, hb.size, fun k hk _ => hb.block k hk, hb.os, hb.tape, hb.output⟩
theorem Boxed.set {A B : World} {g : Nat} {cs : Array Value} (h : Boxed A B g cs) (i : Nat) (v : Value) : Boxed A (B.setCell ⟨g, i, none⟩ v) g (cs.setIfInBounds i v) := by
  refine ⟨heap_setCell_same _ _ _ _ _ _ h.box, ?_, fun k hk hne => ?_, h.os, h.tape, h.output⟩
  · simp [World.setCell]; exact h.size
  · rw [Below.heap_setCell _ _ _ _ hne]; exact h.rest k hk hne
theorem Boxed.drew {A B : World} {g : Nat} {cs : Array Value} (h : Boxed A B g cs) : Boxed A B.drew g cs := ⟨h.box, h.size, h.rest, h.os, h.tape, h.output⟩

end Go.Proofs.Ytlaeljkjdfffjaa

namespace Go.Proofs.Ytlaeljkjdfffjaa
open Go.RowKit

end Go.Proofs.Ytlaeljkjdfffjaa

namespace Go.Proofs.Ytlaeljkjdfffjaa
open Go.RowKit

end Go.Proofs.Ytlaeljkjdfffjaa

namespace Go.Proofs.Ytlaeljkjdfffjaa
open Go.RowKit

/-- A result that is a new slice of strings. -/
def StrsOut (B : Nat) (w0 : World) (er : Int) (l : List ByteArray) (e : Ending) (w' : World) : Prop :=
  ∃ v n, e = .returned (.tuple #[v, .int .i64 er]) ∧ w'.ownsRow B 9 1 v n (l.map Value.string) ∧ Below w0.heap.size w0 w'

end Go.Proofs.Ytlaeljkjdfffjaa

namespace Go.Proofs.Ytlaeljkjdfffjaa
open Go.RowKit

def t3 : Tr := .pair (.pair .nil .nil) (.pair .nil .nil)
end Go.Proofs.Ytlaeljkjdfffjaa

namespace Go.Proofs.Ytlaeljkjdfffjaa
open Go.RowKit

end Go.Proofs.Ytlaeljkjdfffjaa

namespace Go.Proofs.Ytlaeljkjdfffjaa
open Go.RowKit

/-- An owned slice of strings, as a row. -/
theorem StrsOut.row {B : Nat} {w0 w' : World} {er : Int} {l : List ByteArray} {e : Ending} (h : StrsOut B w0 er l e w') (hl : ∀ s ∈ l, s.size ≤ 281474976710656) (hn : l.length ≤ 281474976710656) :
    ∃ v, e = .returned (.tuple #[v, .int .i64 er]) ∧ StrRow w' w'.heap.size v l ∧ Below w0.heap.size w0 w' := by
  obtain ⟨v, n, he, ho, hb⟩ := h
  exact ⟨v, he, StrRow.of_own ho hl hn, hb⟩
end Go.Proofs.Ytlaeljkjdfffjaa

namespace Go.Proofs.Ytlaeljkjdfffjaa
open Go.RowKit

theorem Boxed.below {A0 A B : World} {g : Nat} {cs : Array Value} (h : Boxed A B g cs) (hb : Below A0.heap.size A0 A) (hg : A0.heap.size = g) : Below A0.heap.size A0 B := by
  refine ⟨h.os.trans hb.os, h.tape.trans hb.tape, h.output.trans hb.output, Nat.le_trans hb.size h.size, fun k hk => ?_⟩
  rw [h.rest k (Nat.lt_of_lt_of_le hk hb.size) (by omega)]
  exact hb.block k hk
/-- What Decode leaves. -/
def DecOut (w : World) (t : Tr) (e : Ending) (w' : World) : Prop :=
  Below w.heap.size w w' ∧ ((∃ l v, decT t = some l ∧ e = .returned (.tuple #[v, .int .i64 0]) ∧ OwnI w' w.heap.size v l) ∨ (decT t = none ∧ e = .returned (.tuple #[.slice none 0 0, .int .i64 4])))
theorem DecOut.bad {w w' : World} {t : Tr} {e : Ending} (h : decT t = none) (he : e = .returned (.tuple #[.slice none 0 0, .int .i64 4])) (hb : Below w.heap.size w w') : DecOut w t e w' := ⟨hb, .inr ⟨h, he⟩⟩
theorem DecOut.ok {w w' : World} {t : Tr} {e : Ending} {l : List Ins} {v : Value} (h : decT t = some l) (he : e = .returned (.tuple #[v, .int .i64 0])) (hr : OwnI w' w.heap.size v l) (hb : Below w.heap.size w w') : DecOut w t e w' := ⟨hb, .inl ⟨l, v, h, he, hr⟩⟩
end Go.Proofs.Ytlaeljkjdfffjaa

namespace Go.Proofs.Ytlaeljkjdfffjaa
open Go.RowKit

end Go.Proofs.Ytlaeljkjdfffjaa

namespace Go.Proofs.Ytlaeljkjdfffjaa
open Go.RowKit

theorem done_parts {l : List Ins} {K k : Nat} {t : Tr} {s : St} (hv : rightAll l = true) (ht : t.size ≤ 2000000) (h : goF l K 0 (startS t) = .done s k) : (getR s.regs 0).size ≤ 2000000 ∧ k ≤ K := by
  rcases goF_how l K 0 (startS t) with ⟨u, m, h1, h2, h3, h4⟩ | ⟨u, h1, _, _⟩ | ⟨u, m, h1, _⟩
  · rw [h] at h1
    injection h1 with e1 e2
    rw [Nat.zero_add] at e2
    subst e1; subst e2
    exact ⟨getR_size (h3.good hv (Good.start _ t ht)).2.2 0, h2⟩
  · rw [h] at h1; cases h1
  · rw [h] at h1; cases h1
end Go.Proofs.Ytlaeljkjdfffjaa

namespace Go.Proofs.Ytlaeljkjdfffjaa
open Go.RowKit

theorem univ_codeN : codeN univL ≤ 2000000 := by decide +kernel


set_option maxRecDepth 20000 in
set_option maxHeartbeats 8000000 in
theorem ui_a {w : World} (vp : Value) (p : List Ins) (hhp : InsRow w w.heap.size vp p) (x : ByteArray) (hxs : x.size ≤ 140737488355328) (HV : Hid (validB p = false)) (fuel : Int) : Calls Try.prog 7 #[vp, .string x, .int .i64 fuel] w fun e w' => e = .returned (.bool true) ∧ Below w.heap.size w w' := by
  obtain ⟨pa, pc, rfl⟩ := hhp.len
  obtain ⟨pn, hpn⟩ : ∃ z, p.length = z := ⟨_, rfl⟩
  rw [hpn] at hhp ⊢
  have hp := Lib.hid hhp
  have HPN := Lib.hid hpn
  clear hhp hpn
  have HXS := Lib.hid hxs
  clear hxs
  have ch := Lib.hid (Below.refl w.heap.size w)
  go_enter Try.func7, Try.ntmps7
  go_wp2_with fail
  refine (universal_any _).mono ?_
  rintro e w1 ⟨vu, rfl, hu, hq⟩
  replace hp := Lib.hid ((hp.out.below hq).mono hq.size)
  replace ch := Lib.hid (ch.out.trans (hq.mono ch.out.size))
  clear hq
  obtain ⟨ua, uc, rfl⟩ := hu.slice
  rw [univ_len] at hu ⊢
  replace hu := Lib.hid (hu.row (by rw [univ_len]; omega))
  go_wp2_with fail
  refine (cvalid_at true univ_valid hu.out).mono ?_
  rintro e w2 ⟨rfl, hq⟩
  replace hp := Lib.hid ((hp.out.below hq).mono hq.size)
  replace hu := Lib.hid ((hu.out.below hq).mono hq.size)
  replace ch := Lib.hid (ch.out.trans (hq.mono ch.out.size))
  clear hq
  go_wp2_with fail
  refine (cvalid_at false HV.out hp.out).mono ?_
  rintro e w3 ⟨rfl, hq⟩
  replace hp := Lib.hid ((hp.out.below hq).mono hq.size)
  replace hu := Lib.hid ((hu.out.below hq).mono hq.size)
  replace ch := Lib.hid (ch.out.trans (hq.mono ch.out.size))
  clear hq
  go_wp2_with fail
  refine (awake06 _).mono ?_
  rintro e w4 ⟨rfl, hq⟩
  replace hp := Lib.hid ((hp.out.below hq).mono hq.size)
  replace hu := Lib.hid ((hu.out.below hq).mono hq.size)
  replace ch := Lib.hid (ch.out.trans (hq.mono ch.out.size))
  clear hq
  go_wp2
  go_ret
  exact ⟨rfl, ch.out⟩

set_option maxRecDepth 20000 in
set_option maxHeartbeats 8000000 in
theorem ui_b {w : World} (vp : Value) (p : List Ins) (hhp : InsRow w w.heap.size vp p) (x : ByteArray) (hxs : x.size ≤ 140737488355328) (HV : Hid (validB p = true)) (HX : Hid (isTree x = false)) (fuel : Int) : Calls Try.prog 7 #[vp, .string x, .int .i64 fuel] w fun e w' => e = .returned (.bool true) ∧ Below w.heap.size w w' := by
  obtain ⟨pa, pc, rfl⟩ := hhp.len
  obtain ⟨pn, hpn⟩ : ∃ z, p.length = z := ⟨_, rfl⟩
  rw [hpn] at hhp ⊢
  have hp := Lib.hid hhp
  have HPN := Lib.hid hpn
  clear hhp hpn
  have HXS := Lib.hid hxs
  clear hxs
  have ch := Lib.hid (Below.refl w.heap.size w)
  go_enter Try.func7, Try.ntmps7
  go_wp2_with fail
  refine (universal_any _).mono ?_
  rintro e w1 ⟨vu, rfl, hu, hq⟩
  replace hp := Lib.hid ((hp.out.below hq).mono hq.size)
  replace ch := Lib.hid (ch.out.trans (hq.mono ch.out.size))
  clear hq
  obtain ⟨ua, uc, rfl⟩ := hu.slice
  rw [univ_len] at hu ⊢
  replace hu := Lib.hid (hu.row (by rw [univ_len]; omega))
  go_wp2_with fail
  refine (cvalid_at true univ_valid hu.out).mono ?_
  rintro e w2 ⟨rfl, hq⟩
  replace hp := Lib.hid ((hp.out.below hq).mono hq.size)
  replace hu := Lib.hid ((hu.out.below hq).mono hq.size)
  replace ch := Lib.hid (ch.out.trans (hq.mono ch.out.size))
  clear hq
  go_wp2_with fail
  refine (cvalid_at true HV.out hp.out).mono ?_
  rintro e w3 ⟨rfl, hq⟩
  replace hp := Lib.hid ((hp.out.below hq).mono hq.size)
  replace hu := Lib.hid ((hu.out.below hq).mono hq.size)
  replace ch := Lib.hid (ch.out.trans (hq.mono ch.out.size))
  clear hq
  go_wp2_with fail
  refine (tvalid_at x HXS.out false HX.out _).mono ?_
  rintro e w4 ⟨rfl, hq⟩
  replace hp := Lib.hid ((hp.out.below hq).mono hq.size)
  replace hu := Lib.hid ((hu.out.below hq).mono hq.size)
  replace ch := Lib.hid (ch.out.trans (hq.mono ch.out.size))
  clear hq
  go_wp2_with fail
  refine (awake06 _).mono ?_
  rintro e w5 ⟨rfl, hq⟩
  replace hp := Lib.hid ((hp.out.below hq).mono hq.size)
  replace hu := Lib.hid ((hu.out.below hq).mono hq.size)
  replace ch := Lib.hid (ch.out.trans (hq.mono ch.out.size))
  clear hq
  go_wp2
  go_ret
  exact ⟨rfl, ch.out⟩

set_option maxRecDepth 20000 in
set_option maxHeartbeats 8000000 in
theorem ui_c {w : World} (vp : Value) (p : List Ins) (hhp : InsRow w w.heap.size vp p) (x : ByteArray) (hxs : x.size ≤ 140737488355328) (HV : Hid (validB p = true)) (HX : Hid (isTree x = true)) (fuel : Int) (hn : fuel < 0) : Calls Try.prog 7 #[vp, .string x, .int .i64 fuel] w fun e w' => e = .returned (.bool true) ∧ Below w.heap.size w w' := by
  obtain ⟨pa, pc, rfl⟩ := hhp.len
  obtain ⟨pn, hpn⟩ : ∃ z, p.length = z := ⟨_, rfl⟩
  rw [hpn] at hhp ⊢
  have hp := Lib.hid hhp
  have HPN := Lib.hid hpn
  clear hhp hpn
  have HXS := Lib.hid hxs
  clear hxs
  have ch := Lib.hid (Below.refl w.heap.size w)
  go_enter Try.func7, Try.ntmps7
  go_wp2_with fail
  refine (universal_any _).mono ?_
  rintro e w1 ⟨vu, rfl, hu, hq⟩
  replace hp := Lib.hid ((hp.out.below hq).mono hq.size)
  replace ch := Lib.hid (ch.out.trans (hq.mono ch.out.size))
  clear hq
  obtain ⟨ua, uc, rfl⟩ := hu.slice
  rw [univ_len] at hu ⊢
  replace hu := Lib.hid (hu.row (by rw [univ_len]; omega))
  go_wp2_with fail
  refine (cvalid_at true univ_valid hu.out).mono ?_
  rintro e w2 ⟨rfl, hq⟩
  replace hp := Lib.hid ((hp.out.below hq).mono hq.size)
  replace hu := Lib.hid ((hu.out.below hq).mono hq.size)
  replace ch := Lib.hid (ch.out.trans (hq.mono ch.out.size))
  clear hq
  go_wp2_with fail
  refine (cvalid_at true HV.out hp.out).mono ?_
  rintro e w3 ⟨rfl, hq⟩
  replace hp := Lib.hid ((hp.out.below hq).mono hq.size)
  replace hu := Lib.hid ((hu.out.below hq).mono hq.size)
  replace ch := Lib.hid (ch.out.trans (hq.mono ch.out.size))
  clear hq
  go_wp2_with fail
  refine (tvalid_at x HXS.out true HX.out _).mono ?_
  rintro e w4 ⟨rfl, hq⟩
  replace hp := Lib.hid ((hp.out.below hq).mono hq.size)
  replace hu := Lib.hid ((hu.out.below hq).mono hq.size)
  replace ch := Lib.hid (ch.out.trans (hq.mono ch.out.size))
  clear hq
  go_wp2_with fail
  refine (awake06 _).mono ?_
  rintro e w5 ⟨rfl, hq⟩
  replace hp := Lib.hid ((hp.out.below hq).mono hq.size)
  replace hu := Lib.hid ((hu.out.below hq).mono hq.size)
  replace ch := Lib.hid (ch.out.trans (hq.mono ch.out.size))
  clear hq
  go_wp2
  go_ret
  exact ⟨rfl, ch.out⟩

set_option maxRecDepth 20000 in
set_option maxHeartbeats 8000000 in
theorem ui_d {w : World} (vp : Value) (p : List Ins) (hhp : InsRow w w.heap.size vp p) (x : ByteArray) (hxs : x.size ≤ 140737488355328) (HV : Hid (validB p = true)) (HX : Hid (isTree x = true)) (fuel : Int) (hn : ¬ fuel < 0) (hl : (10000000 : Int) < fuel) : Calls Try.prog 7 #[vp, .string x, .int .i64 fuel] w fun e w' => e = .returned (.bool true) ∧ Below w.heap.size w w' := by
  obtain ⟨pa, pc, rfl⟩ := hhp.len
  obtain ⟨pn, hpn⟩ : ∃ z, p.length = z := ⟨_, rfl⟩
  rw [hpn] at hhp ⊢
  have hp := Lib.hid hhp
  have HPN := Lib.hid hpn
  clear hhp hpn
  have HXS := Lib.hid hxs
  clear hxs
  have ch := Lib.hid (Below.refl w.heap.size w)
  go_enter Try.func7, Try.ntmps7
  go_wp2_with fail
  refine (universal_any _).mono ?_
  rintro e w1 ⟨vu, rfl, hu, hq⟩
  replace hp := Lib.hid ((hp.out.below hq).mono hq.size)
  replace ch := Lib.hid (ch.out.trans (hq.mono ch.out.size))
  clear hq
  obtain ⟨ua, uc, rfl⟩ := hu.slice
  rw [univ_len] at hu ⊢
  replace hu := Lib.hid (hu.row (by rw [univ_len]; omega))
  go_wp2_with fail
  refine (cvalid_at true univ_valid hu.out).mono ?_
  rintro e w2 ⟨rfl, hq⟩
  replace hp := Lib.hid ((hp.out.below hq).mono hq.size)
  replace hu := Lib.hid ((hu.out.below hq).mono hq.size)
  replace ch := Lib.hid (ch.out.trans (hq.mono ch.out.size))
  clear hq
  go_wp2_with fail
  refine (cvalid_at true HV.out hp.out).mono ?_
  rintro e w3 ⟨rfl, hq⟩
  replace hp := Lib.hid ((hp.out.below hq).mono hq.size)
  replace hu := Lib.hid ((hu.out.below hq).mono hq.size)
  replace ch := Lib.hid (ch.out.trans (hq.mono ch.out.size))
  clear hq
  go_wp2_with fail
  refine (tvalid_at x HXS.out true HX.out _).mono ?_
  rintro e w4 ⟨rfl, hq⟩
  replace hp := Lib.hid ((hp.out.below hq).mono hq.size)
  replace hu := Lib.hid ((hu.out.below hq).mono hq.size)
  replace ch := Lib.hid (ch.out.trans (hq.mono ch.out.size))
  clear hq
  go_wp2_with fail
  refine (awake06 _).mono ?_
  rintro e w5 ⟨rfl, hq⟩
  replace hp := Lib.hid ((hp.out.below hq).mono hq.size)
  replace hu := Lib.hid ((hu.out.below hq).mono hq.size)
  replace ch := Lib.hid (ch.out.trans (hq.mono ch.out.size))
  clear hq
  go_wp2
  go_ret
  exact ⟨rfl, ch.out⟩

set_option maxRecDepth 20000 in
set_option maxHeartbeats 8000000 in
theorem ui_e {w : World} (vp : Value) (p : List Ins) (hhp : InsRow w w.heap.size vp p) (x : ByteArray) (hxs : x.size ≤ 140737488355328) (HV : Hid (validB p = true)) (HX : Hid (isTree x = true)) (K : Nat) (HK : Hid (K ≤ 10000000)) (HG : Hid (¬ (codeN p ≤ 2000000 ∧ (Tr.pair (codeT p) (toTr x)).size ≤ 2000000))) : Calls Try.prog 7 #[vp, .string x, .int .i64 K] w fun e w' => e = .returned (.bool true) ∧ Below w.heap.size w w' := by
  obtain ⟨pa, pc, rfl⟩ := hhp.len
  obtain ⟨pn, hpn⟩ : ∃ z, p.length = z := ⟨_, rfl⟩
  rw [hpn] at hhp ⊢
  have hp := Lib.hid hhp
  have HPN := Lib.hid hpn
  clear hhp hpn
  have HXS := Lib.hid hxs
  clear hxs
  have ch := Lib.hid (Below.refl w.heap.size w)
  go_enter Try.func7, Try.ntmps7
  go_wp2_with fail
  refine (universal_any _).mono ?_
  rintro e w1 ⟨vu, rfl, hu, hq⟩
  replace hp := Lib.hid ((hp.out.below hq).mono hq.size)
  replace ch := Lib.hid (ch.out.trans (hq.mono ch.out.size))
  clear hq
  obtain ⟨ua, uc, rfl⟩ := hu.slice
  rw [univ_len] at hu ⊢
  replace hu := Lib.hid (hu.row (by rw [univ_len]; omega))
  go_wp2_with fail
  refine (cvalid_at true univ_valid hu.out).mono ?_
  rintro e w2 ⟨rfl, hq⟩
  replace hp := Lib.hid ((hp.out.below hq).mono hq.size)
  replace hu := Lib.hid ((hu.out.below hq).mono hq.size)
  replace ch := Lib.hid (ch.out.trans (hq.mono ch.out.size))
  clear hq
  go_wp2_with fail
  refine (cvalid_at true HV.out hp.out).mono ?_
  rintro e w3 ⟨rfl, hq⟩
  replace hp := Lib.hid ((hp.out.below hq).mono hq.size)
  replace hu := Lib.hid ((hu.out.below hq).mono hq.size)
  replace ch := Lib.hid (ch.out.trans (hq.mono ch.out.size))
  clear hq
  go_wp2_with fail
  refine (tvalid_at x HXS.out true HX.out _).mono ?_
  rintro e w4 ⟨rfl, hq⟩
  replace hp := Lib.hid ((hp.out.below hq).mono hq.size)
  replace hu := Lib.hid ((hu.out.below hq).mono hq.size)
  replace ch := Lib.hid (ch.out.trans (hq.mono ch.out.size))
  clear hq
  have hk0 : decide ((K : Int) < 0) = false := decide_eq_false (by omega)
  have hk1 : decide ((10000000 : Int) < (K : Int)) = false := decide_eq_false (by have := HK.out; omega)
  have HT := Lib.hid (str_tree x HX.out).2
  go_wp2_with fail
  refine (read_str x HX.out _).mono ?_
  rintro e w5 ⟨px, rfl, hx, hq⟩
  replace hp := Lib.hid ((hp.out.below hq).mono hq.size)
  replace hu := Lib.hid ((hu.out.below hq).mono hq.size)
  replace ch := Lib.hid (ch.out.trans (hq.mono ch.out.size))
  clear hq
  replace hx := Lib.hid hx
  clear hk0 hk1
  go_wp2_with fail
  refine (given_none _ p hp.out _ _ hx.out HT.out HV.out HG.out).mono ?_
  rintro e w6 ⟨rfl, hq⟩
  replace hp := Lib.hid ((hp.out.below hq).mono hq.size)
  replace hu := Lib.hid ((hu.out.below hq).mono hq.size)
  replace hx := Lib.hid (hx.out.kept (Kept.below hq))
  replace ch := Lib.hid (ch.out.trans (hq.mono ch.out.size))
  clear hq
  go_wp2_with fail
  refine (awake06 _).mono ?_
  rintro e w7 ⟨rfl, hq⟩
  replace hp := Lib.hid ((hp.out.below hq).mono hq.size)
  replace hu := Lib.hid ((hu.out.below hq).mono hq.size)
  replace hx := Lib.hid (hx.out.kept (Kept.below hq))
  replace ch := Lib.hid (ch.out.trans (hq.mono ch.out.size))
  clear hq
  go_wp2
  go_ret
  exact ⟨rfl, ch.out⟩

set_option maxRecDepth 20000 in
set_option maxHeartbeats 8000000 in
theorem ui_f {w : World} (vp : Value) (p : List Ins) (hhp : InsRow w w.heap.size vp p) (x : ByteArray) (hxs : x.size ≤ 140737488355328) (HV : Hid (validB p = true)) (HX : Hid (isTree x = true)) (K : Nat) (HK : Hid (K ≤ 10000000)) (HG : Hid (codeN p ≤ 2000000 ∧ (Tr.pair (codeT p) (toTr x)).size ≤ 2000000)) (HZ : Hid (¬ (Tr.pair (codeT univL) (Tr.pair (codeT p) (toTr x))).size ≤ 2000000)) : Calls Try.prog 7 #[vp, .string x, .int .i64 K] w fun e w' => e = .returned (.bool true) ∧ Below w.heap.size w w' := by
  obtain ⟨pa, pc, rfl⟩ := hhp.len
  obtain ⟨pn, hpn⟩ : ∃ z, p.length = z := ⟨_, rfl⟩
  rw [hpn] at hhp ⊢
  have hp := Lib.hid hhp
  have HPN := Lib.hid hpn
  clear hhp hpn
  have HXS := Lib.hid hxs
  clear hxs
  have ch := Lib.hid (Below.refl w.heap.size w)
  go_enter Try.func7, Try.ntmps7
  go_wp2_with fail
  refine (universal_any _).mono ?_
  rintro e w1 ⟨vu, rfl, hu, hq⟩
  replace hp := Lib.hid ((hp.out.below hq).mono hq.size)
  replace ch := Lib.hid (ch.out.trans (hq.mono ch.out.size))
  clear hq
  obtain ⟨ua, uc, rfl⟩ := hu.slice
  rw [univ_len] at hu ⊢
  replace hu := Lib.hid (hu.row (by rw [univ_len]; omega))
  go_wp2_with fail
  refine (cvalid_at true univ_valid hu.out).mono ?_
  rintro e w2 ⟨rfl, hq⟩
  replace hp := Lib.hid ((hp.out.below hq).mono hq.size)
  replace hu := Lib.hid ((hu.out.below hq).mono hq.size)
  replace ch := Lib.hid (ch.out.trans (hq.mono ch.out.size))
  clear hq
  go_wp2_with fail
  refine (cvalid_at true HV.out hp.out).mono ?_
  rintro e w3 ⟨rfl, hq⟩
  replace hp := Lib.hid ((hp.out.below hq).mono hq.size)
  replace hu := Lib.hid ((hu.out.below hq).mono hq.size)
  replace ch := Lib.hid (ch.out.trans (hq.mono ch.out.size))
  clear hq
  go_wp2_with fail
  refine (tvalid_at x HXS.out true HX.out _).mono ?_
  rintro e w4 ⟨rfl, hq⟩
  replace hp := Lib.hid ((hp.out.below hq).mono hq.size)
  replace hu := Lib.hid ((hu.out.below hq).mono hq.size)
  replace ch := Lib.hid (ch.out.trans (hq.mono ch.out.size))
  clear hq
  have hk0 : decide ((K : Int) < 0) = false := decide_eq_false (by omega)
  have hk1 : decide ((10000000 : Int) < (K : Int)) = false := decide_eq_false (by have := HK.out; omega)
  have HT := Lib.hid (str_tree x HX.out).2
  go_wp2_with fail
  refine (read_str x HX.out _).mono ?_
  rintro e w5 ⟨px, rfl, hx, hq⟩
  replace hp := Lib.hid ((hp.out.below hq).mono hq.size)
  replace hu := Lib.hid ((hu.out.below hq).mono hq.size)
  replace ch := Lib.hid (ch.out.trans (hq.mono ch.out.size))
  clear hq
  replace hx := Lib.hid hx
  clear hk0 hk1
  go_wp2_with fail
  refine (given_ok _ p hp.out _ _ hx.out HT.out HV.out HG.out.1 HG.out.2).mono ?_
  rintro e w6 ⟨gg, rfl, hn, hq⟩
  replace hp := Lib.hid ((hp.out.below hq).mono hq.size)
  replace hu := Lib.hid ((hu.out.below hq).mono hq.size)
  replace hx := Lib.hid (hx.out.kept (Kept.below hq))
  replace ch := Lib.hid (ch.out.trans (hq.mono ch.out.size))
  clear hq
  replace hn := Lib.hid hn
  go_wp2_with fail
  refine (load_any _ univL _ hu.out univ_valid).mono ?_
  rintro e w7 ⟨gm, tv, rfl, hm, hq⟩
  replace hp := Lib.hid ((hp.out.below hq).mono hq.size)
  replace hu := Lib.hid ((hu.out.below hq).mono hq.size)
  replace hx := Lib.hid (hx.out.kept (Kept.below hq))
  replace hn := Lib.hid (hn.out.kept (Kept.below hq))
  replace ch := Lib.hid (ch.out.trans (hq.mono ch.out.size))
  clear hq
  replace hm := Lib.hid hm
  obtain ⟨K4, hK4⟩ : ∃ z, min K 4000 = z := ⟨_, rfl⟩
  have hmn : ∀ (w : World) (ts : Array TypeId) (t : TypeId), (Builtin.min_ ts t #[.int .i64 K, .int .i64 4000]).run Try.prog w = .ok (.int .i64 K4) w := by
    intro w ts t
    rw [Go.run_min_int2]
    congr 2
    split <;> omega
  have HK4 := Lib.hid (show K4 ≤ 4000 by omega)
  clear hK4
  go_wp2_with fail
  refine (peak_any _ _ univL _ _ _ _ K4 (by have := HK4.out; omega) hm.out hn.out HG.out.2 (validB_all univ_valid) (validB_len univ_valid)).mono ?_
  rintro e w8 ⟨q, n, M, er, rfl, hq, hM6, hsum, hcase⟩
  replace hp := Lib.hid ((hp.out.below hq).mono hq.size)
  replace hu := Lib.hid ((hu.out.below hq).mono hq.size)
  replace hx := Lib.hid (hx.out.kept (Kept.below hq))
  replace hn := Lib.hid (hn.out.kept (Kept.below hq))
  replace hm := Lib.hid (mach_lift hm.out hq)
  replace ch := Lib.hid (ch.out.trans (hq.mono ch.out.size))
  clear hq
  replace hsum := Lib.hid hsum
  have HM6 := Lib.hid hM6
  clear hM6
  clear hmn
  have hcl := Lib.hid (show ∀ w', Below w8.heap.size w8 w' → (∃ s, goF univL K4 0 (startS (.pair (codeT p) (toTr x))) = .done s n ∧ er = 0 ∧ NodeP 58 w' (getR s.regs 0) (.pointer q)) ∨ ((∃ s, goF univL K4 0 (startS (.pair (codeT p) (toTr x))) = .fuel s K4) ∧ er = 7 ∧ n = 0) ∨ (goF univL K4 0 (startS (.pair (codeT p) (toTr x))) = .big ∧ er = 3 ∧ n = 0) from fun w' hb => hcase.imp (fun ⟨s, h1, h2, h3⟩ => ⟨s, h1, h2, h3.kept (Kept.below hb)⟩) id)
  clear hcase
  go_wp2_with fail
  refine (given_none _ univL hu.out _ _ hn.out HG.out.2 univ_valid (fun h => HZ.out h.2)).mono ?_
  rintro e w9 ⟨rfl, hq⟩
  replace hp := Lib.hid ((hp.out.below hq).mono hq.size)
  replace hu := Lib.hid ((hu.out.below hq).mono hq.size)
  replace hx := Lib.hid (hx.out.kept (Kept.below hq))
  replace hn := Lib.hid (hn.out.kept (Kept.below hq))
  replace hm := Lib.hid (mach_lift hm.out hq)
  replace hcl := Lib.hid (fun w' (hb : Below w9.heap.size w9 w') => hcl.out w' (hq.trans (hb.mono hq.size)))
  replace ch := Lib.hid (ch.out.trans (hq.mono ch.out.size))
  clear hq
  have hcase := hcl.out _ (Below.refl _ _)
  clear hcl
  rcases hcase with ⟨sF, hg, rfl, hy⟩ | ⟨_, rfl, _⟩ | ⟨_, rfl, _⟩
  · clear hg hy hsum
    go_wp2_with fail
    refine (awake06 _).mono ?_
    rintro e w10 ⟨rfl, hq⟩
    replace hp := Lib.hid ((hp.out.below hq).mono hq.size)
    replace hu := Lib.hid ((hu.out.below hq).mono hq.size)
    replace hx := Lib.hid (hx.out.kept (Kept.below hq))
    replace hn := Lib.hid (hn.out.kept (Kept.below hq))
    replace hm := Lib.hid (mach_lift hm.out hq)
    replace ch := Lib.hid (ch.out.trans (hq.mono ch.out.size))
    clear hq
    go_wp2
    go_ret
    exact ⟨rfl, ch.out⟩
  · clear hsum
    go_wp2_with fail
    refine (awake06 _).mono ?_
    rintro e w10 ⟨rfl, hq⟩
    replace hp := Lib.hid ((hp.out.below hq).mono hq.size)
    replace hu := Lib.hid ((hu.out.below hq).mono hq.size)
    replace hx := Lib.hid (hx.out.kept (Kept.below hq))
    replace hn := Lib.hid (hn.out.kept (Kept.below hq))
    replace hm := Lib.hid (mach_lift hm.out hq)
    replace ch := Lib.hid (ch.out.trans (hq.mono ch.out.size))
    clear hq
    go_wp2
    go_ret
    exact ⟨rfl, ch.out⟩
  · clear hsum
    go_wp2_with fail
    refine (awake06 _).mono ?_
    rintro e w10 ⟨rfl, hq⟩
    replace hp := Lib.hid ((hp.out.below hq).mono hq.size)
    replace hu := Lib.hid ((hu.out.below hq).mono hq.size)
    replace hx := Lib.hid (hx.out.kept (Kept.below hq))
    replace hn := Lib.hid (hn.out.kept (Kept.below hq))
    replace hm := Lib.hid (mach_lift hm.out hq)
    replace ch := Lib.hid (ch.out.trans (hq.mono ch.out.size))
    clear hq
    go_wp2
    go_ret
    exact ⟨rfl, ch.out⟩

set_option maxRecDepth 20000 in
set_option maxHeartbeats 8000000 in
theorem ui_g {w : World} (vp : Value) (p : List Ins) (hhp : InsRow w w.heap.size vp p) (x : ByteArray) (hxs : x.size ≤ 140737488355328) (HV : Hid (validB p = true)) (HX : Hid (isTree x = true)) (K : Nat) (HK : Hid (K ≤ 10000000)) (HG : Hid (codeN p ≤ 2000000 ∧ (Tr.pair (codeT p) (toTr x)).size ≤ 2000000)) (HZ : Hid ((Tr.pair (codeT univL) (Tr.pair (codeT p) (toTr x))).size ≤ 2000000)) : Calls Try.prog 7 #[vp, .string x, .int .i64 K] w fun e w' => e = .returned (.bool true) ∧ Below w.heap.size w w' := by
  obtain ⟨pa, pc, rfl⟩ := hhp.len
  obtain ⟨pn, hpn⟩ : ∃ z, p.length = z := ⟨_, rfl⟩
  rw [hpn] at hhp ⊢
  have hp := Lib.hid hhp
  have HPN := Lib.hid hpn
  clear hhp hpn
  have HXS := Lib.hid hxs
  clear hxs
  have ch := Lib.hid (Below.refl w.heap.size w)
  go_enter Try.func7, Try.ntmps7
  go_wp2_with fail
  refine (universal_any _).mono ?_
  rintro e w1 ⟨vu, rfl, hu, hq⟩
  replace hp := Lib.hid ((hp.out.below hq).mono hq.size)
  replace ch := Lib.hid (ch.out.trans (hq.mono ch.out.size))
  clear hq
  obtain ⟨ua, uc, rfl⟩ := hu.slice
  rw [univ_len] at hu ⊢
  replace hu := Lib.hid (hu.row (by rw [univ_len]; omega))
  go_wp2_with fail
  refine (cvalid_at true univ_valid hu.out).mono ?_
  rintro e w2 ⟨rfl, hq⟩
  replace hp := Lib.hid ((hp.out.below hq).mono hq.size)
  replace hu := Lib.hid ((hu.out.below hq).mono hq.size)
  replace ch := Lib.hid (ch.out.trans (hq.mono ch.out.size))
  clear hq
  go_wp2_with fail
  refine (cvalid_at true HV.out hp.out).mono ?_
  rintro e w3 ⟨rfl, hq⟩
  replace hp := Lib.hid ((hp.out.below hq).mono hq.size)
  replace hu := Lib.hid ((hu.out.below hq).mono hq.size)
  replace ch := Lib.hid (ch.out.trans (hq.mono ch.out.size))
  clear hq
  go_wp2_with fail
  refine (tvalid_at x HXS.out true HX.out _).mono ?_
  rintro e w4 ⟨rfl, hq⟩
  replace hp := Lib.hid ((hp.out.below hq).mono hq.size)
  replace hu := Lib.hid ((hu.out.below hq).mono hq.size)
  replace ch := Lib.hid (ch.out.trans (hq.mono ch.out.size))
  clear hq
  have hk0 : decide ((K : Int) < 0) = false := decide_eq_false (by omega)
  have hk1 : decide ((10000000 : Int) < (K : Int)) = false := decide_eq_false (by have := HK.out; omega)
  have HT := Lib.hid (str_tree x HX.out).2
  go_wp2_with fail
  refine (read_str x HX.out _).mono ?_
  rintro e w5 ⟨px, rfl, hx, hq⟩
  replace hp := Lib.hid ((hp.out.below hq).mono hq.size)
  replace hu := Lib.hid ((hu.out.below hq).mono hq.size)
  replace ch := Lib.hid (ch.out.trans (hq.mono ch.out.size))
  clear hq
  replace hx := Lib.hid hx
  clear hk0 hk1
  go_wp2_with fail
  refine (given_ok _ p hp.out _ _ hx.out HT.out HV.out HG.out.1 HG.out.2).mono ?_
  rintro e w6 ⟨gg, rfl, hn, hq⟩
  replace hp := Lib.hid ((hp.out.below hq).mono hq.size)
  replace hu := Lib.hid ((hu.out.below hq).mono hq.size)
  replace hx := Lib.hid (hx.out.kept (Kept.below hq))
  replace ch := Lib.hid (ch.out.trans (hq.mono ch.out.size))
  clear hq
  replace hn := Lib.hid hn
  go_wp2_with fail
  refine (load_any _ univL _ hu.out univ_valid).mono ?_
  rintro e w7 ⟨gm, tv, rfl, hm, hq⟩
  replace hp := Lib.hid ((hp.out.below hq).mono hq.size)
  replace hu := Lib.hid ((hu.out.below hq).mono hq.size)
  replace hx := Lib.hid (hx.out.kept (Kept.below hq))
  replace hn := Lib.hid (hn.out.kept (Kept.below hq))
  replace ch := Lib.hid (ch.out.trans (hq.mono ch.out.size))
  clear hq
  replace hm := Lib.hid hm
  obtain ⟨K4, hK4⟩ : ∃ z, min K 4000 = z := ⟨_, rfl⟩
  have hmn : ∀ (w : World) (ts : Array TypeId) (t : TypeId), (Builtin.min_ ts t #[.int .i64 K, .int .i64 4000]).run Try.prog w = .ok (.int .i64 K4) w := by
    intro w ts t
    rw [Go.run_min_int2]
    congr 2
    split <;> omega
  have HK4 := Lib.hid (show K4 ≤ 4000 by omega)
  clear hK4
  go_wp2_with fail
  refine (peak_any _ _ univL _ _ _ _ K4 (by have := HK4.out; omega) hm.out hn.out HG.out.2 (validB_all univ_valid) (validB_len univ_valid)).mono ?_
  rintro e w8 ⟨q, n, M, er, rfl, hq, hM6, hsum, hcase⟩
  replace hp := Lib.hid ((hp.out.below hq).mono hq.size)
  replace hu := Lib.hid ((hu.out.below hq).mono hq.size)
  replace hx := Lib.hid (hx.out.kept (Kept.below hq))
  replace hn := Lib.hid (hn.out.kept (Kept.below hq))
  replace hm := Lib.hid (mach_lift hm.out hq)
  replace ch := Lib.hid (ch.out.trans (hq.mono ch.out.size))
  clear hq
  replace hsum := Lib.hid hsum
  have HM6 := Lib.hid hM6
  clear hM6
  clear hmn
  have hcl := Lib.hid (show ∀ w', Below w8.heap.size w8 w' → (∃ s, goF univL K4 0 (startS (.pair (codeT p) (toTr x))) = .done s n ∧ er = 0 ∧ NodeP 58 w' (getR s.regs 0) (.pointer q)) ∨ ((∃ s, goF univL K4 0 (startS (.pair (codeT p) (toTr x))) = .fuel s K4) ∧ er = 7 ∧ n = 0) ∨ (goF univL K4 0 (startS (.pair (codeT p) (toTr x))) = .big ∧ er = 3 ∧ n = 0) from fun w' hb => hcase.imp (fun ⟨s, h1, h2, h3⟩ => ⟨s, h1, h2, h3.kept (Kept.below hb)⟩) id)
  clear hcase
  go_wp2_with fail
  refine (given_ok _ univL hu.out _ _ hn.out HG.out.2 univ_valid univ_codeN HZ.out).mono ?_
  rintro e w9 ⟨g2, rfl, hn2, hq⟩
  replace hp := Lib.hid ((hp.out.below hq).mono hq.size)
  replace hu := Lib.hid ((hu.out.below hq).mono hq.size)
  replace hx := Lib.hid (hx.out.kept (Kept.below hq))
  replace hn := Lib.hid (hn.out.kept (Kept.below hq))
  replace hm := Lib.hid (mach_lift hm.out hq)
  replace hcl := Lib.hid (fun w' (hb : Below w9.heap.size w9 w') => hcl.out w' (hq.trans (hb.mono hq.size)))
  replace ch := Lib.hid (ch.out.trans (hq.mono ch.out.size))
  clear hq
  replace hn2 := Lib.hid hn2
  have hcase := hcl.out _ (Below.refl _ _)
  clear hcl
  rcases hcase with ⟨sF, hg, rfl, hy⟩ | ⟨_, rfl, _⟩ | ⟨_, rfl, _⟩
  · have HQ := Lib.hid (done_parts (validB_all univ_valid) HG.out.2 hg)
    replace hy := Lib.hid hy
    have HGF := Lib.hid hg
    clear hg
    go_wp2_with fail
    refine (load_any _ univL _ hu.out univ_valid).mono ?_
    rintro e w10 ⟨gu, tu, rfl, hmu, hq⟩
    replace hp := Lib.hid ((hp.out.below hq).mono hq.size)
    replace hu := Lib.hid ((hu.out.below hq).mono hq.size)
    replace hx := Lib.hid (hx.out.kept (Kept.below hq))
    replace hn := Lib.hid (hn.out.kept (Kept.below hq))
    replace hm := Lib.hid (mach_lift hm.out hq)
    replace hn2 := Lib.hid (hn2.out.kept (Kept.below hq))
    replace hy := Lib.hid (hy.out.kept (Kept.below hq))
    replace ch := Lib.hid (ch.out.trans (hq.mono ch.out.size))
    clear hq
    replace hmu := Lib.hid hmu
    obtain ⟨Z, hZ⟩ : ∃ z, (Tr.pair (codeT univL) (Tr.pair (codeT p) (toTr x))).size = z := ⟨_, rfl⟩
    have HZZ := Lib.hid hZ
    clear hZ
    have hlaw := univ_law (validB_all univ_valid) (validB_len univ_valid) HGF.out hsum.out 40000000
    rw [univ_len] at hlaw
    rcases hlaw with ⟨uF, m, hR, hE⟩ | ⟨hR, hS⟩ | ⟨⟨uF, hR⟩, hF⟩
    · replace hR := Lib.hid hR
      replace hE := Lib.hid hE
      go_wp2_with fail
      refine (rrun_done 40000000 _ rfl (by omega) hR.out hmu.out hn2.out HZ.out univ_valid).mono ?_
      rintro e w11 ⟨qz, rfl, hz, hq⟩
      replace hp := Lib.hid ((hp.out.below hq).mono hq.size)
      replace hu := Lib.hid ((hu.out.below hq).mono hq.size)
      replace hx := Lib.hid (hx.out.kept (Kept.below hq))
      replace hn := Lib.hid (hn.out.kept (Kept.below hq))
      replace hm := Lib.hid (mach_lift hm.out hq)
      replace hn2 := Lib.hid (hn2.out.kept (Kept.below hq))
      replace hy := Lib.hid (hy.out.kept (Kept.below hq))
      replace hmu := Lib.hid (mach_lift hmu.out hq)
      replace ch := Lib.hid (ch.out.trans (hq.mono ch.out.size))
      clear hq
      rw [hE.out] at hz
      replace hz := Lib.hid hz
      go_wp2_with fail
      refine (equal_self _ _ _ _ hy.out hz.out (by have := HQ.out.1; omega)).mono ?_
      rintro e w12 ⟨rfl, hq⟩
      replace hp := Lib.hid ((hp.out.below hq).mono hq.size)
      replace hu := Lib.hid ((hu.out.below hq).mono hq.size)
      replace hx := Lib.hid (hx.out.kept (Kept.below hq))
      replace hn := Lib.hid (hn.out.kept (Kept.below hq))
      replace hm := Lib.hid (mach_lift hm.out hq)
      replace hn2 := Lib.hid (hn2.out.kept (Kept.below hq))
      replace hy := Lib.hid (hy.out.kept (Kept.below hq))
      replace hmu := Lib.hid (mach_lift hmu.out hq)
      replace hz := Lib.hid (hz.out.kept (Kept.below hq))
      replace ch := Lib.hid (ch.out.trans (hq.mono ch.out.size))
      clear hq
      go_wp2_with fail
      refine (awake06 _).mono ?_
      rintro e w13 ⟨rfl, hq⟩
      replace hp := Lib.hid ((hp.out.below hq).mono hq.size)
      replace hu := Lib.hid ((hu.out.below hq).mono hq.size)
      replace hx := Lib.hid (hx.out.kept (Kept.below hq))
      replace hn := Lib.hid (hn.out.kept (Kept.below hq))
      replace hm := Lib.hid (mach_lift hm.out hq)
      replace hn2 := Lib.hid (hn2.out.kept (Kept.below hq))
      replace hy := Lib.hid (hy.out.kept (Kept.below hq))
      replace hmu := Lib.hid (mach_lift hmu.out hq)
      replace hz := Lib.hid (hz.out.kept (Kept.below hq))
      replace ch := Lib.hid (ch.out.trans (hq.mono ch.out.size))
      clear hq
      go_wp2
      go_ret
      exact ⟨rfl, ch.out⟩
    · replace hR := Lib.hid hR
      go_wp2_with fail
      refine (rrun_big 40000000 _ rfl (by omega) hR.out hmu.out hn2.out HZ.out univ_valid).mono ?_
      rintro e w11 ⟨qz, rfl, hz, hq⟩
      replace hp := Lib.hid ((hp.out.below hq).mono hq.size)
      replace hu := Lib.hid ((hu.out.below hq).mono hq.size)
      replace hx := Lib.hid (hx.out.kept (Kept.below hq))
      replace hn := Lib.hid (hn.out.kept (Kept.below hq))
      replace hm := Lib.hid (mach_lift hm.out hq)
      replace hn2 := Lib.hid (hn2.out.kept (Kept.below hq))
      replace hy := Lib.hid (hy.out.kept (Kept.below hq))
      replace hmu := Lib.hid (mach_lift hmu.out hq)
      replace ch := Lib.hid (ch.out.trans (hq.mono ch.out.size))
      clear hq
      clear hz
      rw [HZZ.out] at hS
      by_cases hb : 200000 < Z
      · have hzi : (200000 : Int) < (Z : Int) := by omega
        clear hb hS
        have cn := node_count hn2.out Z HZZ.out
        go_wp2_with fail
        clear cn
        refine (awake06 _).mono ?_
        rintro e w12 ⟨rfl, hq⟩
        replace hp := Lib.hid ((hp.out.below hq).mono hq.size)
        replace hu := Lib.hid ((hu.out.below hq).mono hq.size)
        replace hx := Lib.hid (hx.out.kept (Kept.below hq))
        replace hn := Lib.hid (hn.out.kept (Kept.below hq))
        replace hm := Lib.hid (mach_lift hm.out hq)
        replace hn2 := Lib.hid (hn2.out.kept (Kept.below hq))
        replace hy := Lib.hid (hy.out.kept (Kept.below hq))
        replace hmu := Lib.hid (mach_lift hmu.out hq)
        replace ch := Lib.hid (ch.out.trans (hq.mono ch.out.size))
        clear hq
        go_wp2
        go_ret
        exact ⟨rfl, ch.out⟩
      · have hzi : ¬ (200000 : Int) < (Z : Int) := by omega
        have hmi : (200000 : Int) < (M : Int) := by omega
        clear hb hS
        have cn := node_count hn2.out Z HZZ.out
        go_wp2_with fail
        clear cn
        refine (awake06 _).mono ?_
        rintro e w12 ⟨rfl, hq⟩
        replace hp := Lib.hid ((hp.out.below hq).mono hq.size)
        replace hu := Lib.hid ((hu.out.below hq).mono hq.size)
        replace hx := Lib.hid (hx.out.kept (Kept.below hq))
        replace hn := Lib.hid (hn.out.kept (Kept.below hq))
        replace hm := Lib.hid (mach_lift hm.out hq)
        replace hn2 := Lib.hid (hn2.out.kept (Kept.below hq))
        replace hy := Lib.hid (hy.out.kept (Kept.below hq))
        replace hmu := Lib.hid (mach_lift hmu.out hq)
        replace ch := Lib.hid (ch.out.trans (hq.mono ch.out.size))
        clear hq
        go_wp2
        go_ret
        exact ⟨rfl, ch.out⟩
    · replace hR := Lib.hid hR
      go_wp2_with fail
      refine (rrun_fuel 40000000 _ rfl (by omega) hR.out hmu.out hn2.out HZ.out univ_valid).mono ?_
      rintro e w11 ⟨qz, rfl, hz, hq⟩
      replace hp := Lib.hid ((hp.out.below hq).mono hq.size)
      replace hu := Lib.hid ((hu.out.below hq).mono hq.size)
      replace hx := Lib.hid (hx.out.kept (Kept.below hq))
      replace hn := Lib.hid (hn.out.kept (Kept.below hq))
      replace hm := Lib.hid (mach_lift hm.out hq)
      replace hn2 := Lib.hid (hn2.out.kept (Kept.below hq))
      replace hy := Lib.hid (hy.out.kept (Kept.below hq))
      replace hmu := Lib.hid (mach_lift hmu.out hq)
      replace ch := Lib.hid (ch.out.trans (hq.mono ch.out.size))
      clear hq
      clear hz
      obtain ⟨F, hFF⟩ : ∃ z, mostU 129 n = z := ⟨_, rfl⟩
      have hF4 : decide ((40000000 : Int) < (F : Int)) = true := decide_eq_true (by rw [hFF] at hF; omega)
      have km := Lib.hid (fun w1 => most_at 129 n 129 n rfl rfl (by omega) (by have := HK4.out; have := HQ.out.2; omega) w1)
      rw [hFF] at km
      clear hF hFF
      go_wp2_with fail
      refine (km.out _).mono ?_
      rintro e w12 ⟨rfl, hq⟩
      replace hp := Lib.hid ((hp.out.below hq).mono hq.size)
      replace hu := Lib.hid ((hu.out.below hq).mono hq.size)
      replace hx := Lib.hid (hx.out.kept (Kept.below hq))
      replace hn := Lib.hid (hn.out.kept (Kept.below hq))
      replace hm := Lib.hid (mach_lift hm.out hq)
      replace hn2 := Lib.hid (hn2.out.kept (Kept.below hq))
      replace hy := Lib.hid (hy.out.kept (Kept.below hq))
      replace hmu := Lib.hid (mach_lift hmu.out hq)
      replace ch := Lib.hid (ch.out.trans (hq.mono ch.out.size))
      clear hq
      go_wp2_with fail
      refine (awake06 _).mono ?_
      rintro e w13 ⟨rfl, hq⟩
      replace hp := Lib.hid ((hp.out.below hq).mono hq.size)
      replace hu := Lib.hid ((hu.out.below hq).mono hq.size)
      replace hx := Lib.hid (hx.out.kept (Kept.below hq))
      replace hn := Lib.hid (hn.out.kept (Kept.below hq))
      replace hm := Lib.hid (mach_lift hm.out hq)
      replace hn2 := Lib.hid (hn2.out.kept (Kept.below hq))
      replace hy := Lib.hid (hy.out.kept (Kept.below hq))
      replace hmu := Lib.hid (mach_lift hmu.out hq)
      replace ch := Lib.hid (ch.out.trans (hq.mono ch.out.size))
      clear hq
      clear hF4 km
      go_wp2
      go_ret
      exact ⟨rfl, ch.out⟩
  · clear hsum
    go_wp2_with fail
    refine (awake06 _).mono ?_
    rintro e w10 ⟨rfl, hq⟩
    replace hp := Lib.hid ((hp.out.below hq).mono hq.size)
    replace hu := Lib.hid ((hu.out.below hq).mono hq.size)
    replace hx := Lib.hid (hx.out.kept (Kept.below hq))
    replace hn := Lib.hid (hn.out.kept (Kept.below hq))
    replace hm := Lib.hid (mach_lift hm.out hq)
    replace hn2 := Lib.hid (hn2.out.kept (Kept.below hq))
    replace ch := Lib.hid (ch.out.trans (hq.mono ch.out.size))
    clear hq
    go_wp2
    go_ret
    exact ⟨rfl, ch.out⟩
  · clear hsum
    go_wp2_with fail
    refine (awake06 _).mono ?_
    rintro e w10 ⟨rfl, hq⟩
    replace hp := Lib.hid ((hp.out.below hq).mono hq.size)
    replace hu := Lib.hid ((hu.out.below hq).mono hq.size)
    replace hx := Lib.hid (hx.out.kept (Kept.below hq))
    replace hn := Lib.hid (hn.out.kept (Kept.below hq))
    replace hm := Lib.hid (mach_lift hm.out hq)
    replace hn2 := Lib.hid (hn2.out.kept (Kept.below hq))
    replace ch := Lib.hid (ch.out.trans (hq.mono ch.out.size))
    clear hq
    go_wp2
    go_ret
    exact ⟨rfl, ch.out⟩

theorem law_UnivItself {w : World} (vp : Value) (p : List Ins) (hhp : InsRow w w.heap.size vp p) (x : ByteArray) (hxs : x.size ≤ 140737488355328) (fuel : Int) (_ : -9223372036854775808 ≤ fuel ∧ fuel ≤ 9223372036854775807) :
    Calls Try.prog 7 #[vp, .string x, .int .i64 fuel] w fun e w' => e = .returned (.bool true) ∧ Below w.heap.size w w' := by
  cases h1 : validB p with
  | false => exact ui_a vp p hhp x hxs (Lib.hid h1) fuel
  | true =>
    cases h2 : isTree x with
    | false => exact ui_b vp p hhp x hxs (Lib.hid h1) (Lib.hid h2) fuel
    | true =>
      by_cases h3 : fuel < 0
      · exact ui_c vp p hhp x hxs (Lib.hid h1) (Lib.hid h2) fuel h3
      · by_cases h4 : (10000000 : Int) < fuel
        · exact ui_d vp p hhp x hxs (Lib.hid h1) (Lib.hid h2) fuel h3 h4
        · obtain ⟨K, rfl⟩ : ∃ K : Nat, fuel = K := ⟨fuel.toNat, by omega⟩
          by_cases h6 : codeN p ≤ 2000000 ∧ (Tr.pair (codeT p) (toTr x)).size ≤ 2000000
          · by_cases h7 : (Tr.pair (codeT univL) (Tr.pair (codeT p) (toTr x))).size ≤ 2000000
            · exact ui_g vp p hhp x hxs (Lib.hid h1) (Lib.hid h2) K (Lib.hid (by omega)) (Lib.hid h6) (Lib.hid h7)
            · exact ui_f vp p hhp x hxs (Lib.hid h1) (Lib.hid h2) K (Lib.hid (by omega)) (Lib.hid h6) (Lib.hid h7)
          · exact ui_e vp p hhp x hxs (Lib.hid h1) (Lib.hid h2) K (Lib.hid (by omega)) (Lib.hid h6)

end Go.Proofs.Ytlaeljkjdfffjaa


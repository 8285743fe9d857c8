/- The walks of narcissuslaw03: RunSteps. code.fields: how the fields of an instruction are read. code.fields: how the fields of a jump are read. code.fields: its readers; the instruction that they read. The walks of tree.Items and its closure. The walks of narcissuslaw01: awake and TreeConses. The walks of the laws of narcissuslaw01. The walk of TreeReads. code.Decode. law05: SpecMeta, SpecAgain, SpecFound. law06: UnivRuns, UnivHeads, UnivItself, UnivForms. law06: UnivHeads, UnivItself, UnivForms. -/
import Derived.Test.YtlaeljkjdfffjaaCopied
import Derived.Test.YtlaeljkjdfffjaaRunStep
import Derived.Test.YtlaeljkjdfffjaaDec1
import Derived.Test.YtlaeljkjdfffjaaMB2
import Derived.Test.YtlaeljkjdfffjaaMB0
import Derived.Test.YtlaeljkjdfffjaaMB1
import Derived.Test.YtlaeljkjdfffjaaMB3
import Derived.Test.YtlaeljkjdfffjaaMeta3
import Derived.Test.YtlaeljkjdfffjaaUni7
namespace Go.Proofs.Ytlaeljkjdfffjaa
open Go.RowKit

/-- A box of two cells behind a region: newly made there, or made before and written. -/
structure BoxFin (W0 A B : World) (b T : Nat) (x y : Value) : Prop where
  blk : B.heap[b]? = some (.cells #[x, y] T (0, 0))
  els : Els b A B
  was : A.heap[b]? = none ∨ ∃ x y T, A.heap[b]? = some (.cells #[x, y] T (0, 0)) ∧ (∀ s, x ≠ .string s) ∧ ∀ s, y ≠ .string s
  le : W0.heap.size ≤ b
theorem BoxFin.alloc {W0 A : World} (T : Nat) (x y : Value) (h : W0.heap.size ≤ A.heap.size) : BoxFin W0 A (A.alloc (.cells #[x, y] T)) A.heap.size T x y :=
  ⟨heap_alloc_new A _, ⟨rfl, rfl, rfl, by simp, fun k hk _ => Below.heap_alloc _ _ _ hk⟩, .inl (by simp), h⟩
theorem BoxFin.set {W0 A : World} {b T : Nat} {x0 y0 : Value} (x y : Value) (h : A.heap[b]? = some (.cells #[x0, y0] T (0, 0))) (hx : ∀ s, x0 ≠ .string s) (hy : ∀ s, y0 ≠ .string s) (hb : W0.heap.size ≤ b) : BoxFin W0 A ((A.setCell ⟨b, 0, none⟩ x).setCell ⟨b, 1, none⟩ y) b T x y := by
  have h1 := set_blk h 0 x
  have h2 := set_blk h1 1 y
  simp only [List.setIfInBounds_toArray, List.set_cons_zero, List.set_cons_succ] at h2
  exact ⟨h2, ((Els.refl b A).set 0 x).set 1 y, .inr ⟨_, _, _, h, hx, hy⟩, hb⟩
theorem BoxFin.below {W0 A B : World} {b T : Nat} {x y : Value} (h : BoxFin W0 A B b T x y) (hb : Below W0.heap.size W0 A) : Below W0.heap.size W0 B := hb.trans (h.els.below h.le hb.size)

@[elab_as_elim] theorem BoxFin.elimW {W0 A : World} {T : Nat} {x y : Value} {motive : World → Prop} {B : World} {b : Nat} (h : BoxFin W0 A B b T x y) (k : ∀ B, Hid (BoxFin W0 A B b T x y) → motive B) : motive B := k B (Lib.hid h)
@[elab_as_elim] theorem BoxFin.elimB {W0 A : World} {T : Nat} {x y : Value} {motive : Nat → Prop} {B : World} {b : Nat} (h : BoxFin W0 A B b T x y) (k : ∀ b, Hid (BoxFin W0 A B b T x y) → motive b) : motive b := k b (Lib.hid h)
end Go.Proofs.Ytlaeljkjdfffjaa

namespace Go.Proofs.Ytlaeljkjdfffjaa
open Go.RowKit

/-- The box of an instruction holds these cells; all else is kept. -/
structure Boxed (A B : World) (g : Nat) (cs : Array Value) : Prop where
  box : B.heap[g]? = some (.cells cs 41 (0, 0))
  size : A.heap.size ≤ B.heap.size
  rest : ∀ k, k < A.heap.size → k ≠ g → B.heap[k]? = A.heap[k]?
  os : B.os = A.os
  tape : B.tape = A.tape
  output : B.output = A.output
theorem Boxed.of {A B : World} {g : Nat} {cs : Array Value} (hb : Below A.heap.size A B) (h : A.heap[g]? = some (.cells cs 41 (0, 0))) : Boxed A B g cs :=
  ⟨blk_lift hb h, hb.size, fun k hk _ => hb.block k hk, hb.os, hb.tape, hb.output⟩
theorem Boxed.set {A B : World} {g : Nat} {cs : Array Value} (h : Boxed A B g cs) (i : Nat) (v : Value) : Boxed A (B.setCell ⟨g, i, none⟩ v) g (cs.setIfInBounds i v) := by
  refine ⟨heap_setCell_same _ _ _ _ _ _ h.box, ?_, fun k hk hne => ?_, h.os, h.tape, h.output⟩
  · simp [World.setCell]; exact h.size
  · rw [Below.heap_setCell _ _ _ _ hne]; exact h.rest k hk hne
theorem Boxed.drew {A B : World} {g : Nat} {cs : Array Value} (h : Boxed A B g cs) : Boxed A B.drew g cs := ⟨h.box, h.size, h.rest, h.os, h.tape, h.output⟩

end Go.Proofs.Ytlaeljkjdfffjaa

namespace Go.Proofs.Ytlaeljkjdfffjaa
open Go.RowKit

end Go.Proofs.Ytlaeljkjdfffjaa

namespace Go.Proofs.Ytlaeljkjdfffjaa
open Go.RowKit

end Go.Proofs.Ytlaeljkjdfffjaa

namespace Go.Proofs.Ytlaeljkjdfffjaa
open Go.RowKit

/-- A result that is a new slice of strings. -/
def StrsOut (B : Nat) (w0 : World) (er : Int) (l : List ByteArray) (e : Ending) (w' : World) : Prop :=
  ∃ v n, e = .returned (.tuple #[v, .int .i64 er]) ∧ w'.ownsRow B 9 1 v n (l.map Value.string) ∧ Below w0.heap.size w0 w'

end Go.Proofs.Ytlaeljkjdfffjaa

namespace Go.Proofs.Ytlaeljkjdfffjaa
open Go.RowKit

def t3 : Tr := .pair (.pair .nil .nil) (.pair .nil .nil)
end Go.Proofs.Ytlaeljkjdfffjaa

namespace Go.Proofs.Ytlaeljkjdfffjaa
open Go.RowKit

end Go.Proofs.Ytlaeljkjdfffjaa

namespace Go.Proofs.Ytlaeljkjdfffjaa
open Go.RowKit

/-- An owned slice of strings, as a row. -/
theorem StrsOut.row {B : Nat} {w0 w' : World} {er : Int} {l : List ByteArray} {e : Ending} (h : StrsOut B w0 er l e w') (hl : ∀ s ∈ l, s.size ≤ 281474976710656) (hn : l.length ≤ 281474976710656) :
    ∃ v, e = .returned (.tuple #[v, .int .i64 er]) ∧ StrRow w' w'.heap.size v l ∧ Below w0.heap.size w0 w' := by
  obtain ⟨v, n, he, ho, hb⟩ := h
  exact ⟨v, he, StrRow.of_own ho hl hn, hb⟩
end Go.Proofs.Ytlaeljkjdfffjaa

namespace Go.Proofs.Ytlaeljkjdfffjaa
open Go.RowKit

theorem Boxed.below {A0 A B : World} {g : Nat} {cs : Array Value} (h : Boxed A B g cs) (hb : Below A0.heap.size A0 A) (hg : A0.heap.size = g) : Below A0.heap.size A0 B := by
  refine ⟨h.os.trans hb.os, h.tape.trans hb.tape, h.output.trans hb.output, Nat.le_trans hb.size h.size, fun k hk => ?_⟩
  rw [h.rest k (Nat.lt_of_lt_of_le hk hb.size) (by omega)]
  exact hb.block k hk
/-- What Decode leaves. -/
def DecOut (w : World) (t : Tr) (e : Ending) (w' : World) : Prop :=
  Below w.heap.size w w' ∧ ((∃ l v, decT t = some l ∧ e = .returned (.tuple #[v, .int .i64 0]) ∧ OwnI w' w.heap.size v l) ∨ (decT t = none ∧ e = .returned (.tuple #[.slice none 0 0, .int .i64 4])))
theorem DecOut.bad {w w' : World} {t : Tr} {e : Ending} (h : decT t = none) (he : e = .returned (.tuple #[.slice none 0 0, .int .i64 4])) (hb : Below w.heap.size w w') : DecOut w t e w' := ⟨hb, .inr ⟨h, he⟩⟩
theorem DecOut.ok {w w' : World} {t : Tr} {e : Ending} {l : List Ins} {v : Value} (h : decT t = some l) (he : e = .returned (.tuple #[v, .int .i64 0])) (hr : OwnI w' w.heap.size v l) (hb : Below w.heap.size w w') : DecOut w t e w' := ⟨hb, .inl ⟨l, v, h, he, hr⟩⟩
end Go.Proofs.Ytlaeljkjdfffjaa

namespace Go.Proofs.Ytlaeljkjdfffjaa
open Go.RowKit

end Go.Proofs.Ytlaeljkjdfffjaa

namespace Go.Proofs.Ytlaeljkjdfffjaa
open Go.RowKit

theorem done_parts {l : List Ins} {K k : Nat} {t : Tr} {s : St} (hv : rightAll l = true) (ht : t.size ≤ 2000000) (h : goF l K 0 (startS t) = .done s k) : (getR s.regs 0).size ≤ 2000000 ∧ k ≤ K := by
  rcases goF_how l K 0 (startS t) with ⟨u, m, h1, h2, h3, h4⟩ | ⟨u, h1, _, _⟩ | ⟨u, m, h1, _⟩
  · rw [h] at h1
    injection h1 with e1 e2
    rw [Nat.zero_add] at e2
    subst e1; subst e2
    exact ⟨getR_size (h3.good hv (Good.start _ t ht)).2.2 0, h2⟩
  · rw [h] at h1; cases h1
  · rw [h] at h1; cases h1
theorem mostU_mono {n k K : Nat} (h : k ≤ K) : mostU n k ≤ mostU n K := Nat.mul_le_mul_left _ (by omega)

set_option maxRecDepth 20000 in
set_option maxHeartbeats 8000000 in
theorem ur_a {w : World} (vp : Value) (p : List Ins) (hhp : InsRow w w.heap.size vp p) (x : ByteArray) (hxs : x.size ≤ 140737488355328) (HV : Hid (validB p = false)) (fuel : Int) : Calls Try.prog 5 #[vp, .string x, .int .i64 fuel] w fun e w' => e = .returned (.bool true) ∧ Below w.heap.size w w' := by
  obtain ⟨pa, pc, rfl⟩ := hhp.len
  obtain ⟨pn, hpn⟩ : ∃ z, p.length = z := ⟨_, rfl⟩
  rw [hpn] at hhp ⊢
  have hp := Lib.hid hhp
  have HPN := Lib.hid hpn
  have HXS := Lib.hid hxs
  clear hhp hpn hxs
  have ch := Lib.hid (Below.refl w.heap.size w)
  go_enter Try.func5, Try.ntmps5
  go_wp2_with fail
  refine (cvalid_at false HV.out hp.out).mono ?_
  rintro e w1 ⟨rfl, hq⟩
  replace hp := Lib.hid ((hp.out.below hq).mono hq.size)
  replace ch := Lib.hid (ch.out.trans (hq.mono ch.out.size))
  clear hq
  go_wp2_with fail
  refine (awake06 _).mono ?_
  rintro e w2 ⟨rfl, hq⟩
  replace hp := Lib.hid ((hp.out.below hq).mono hq.size)
  replace ch := Lib.hid (ch.out.trans (hq.mono ch.out.size))
  clear hq
  go_wp2
  go_ret
  exact ⟨rfl, ch.out⟩

set_option maxRecDepth 20000 in
set_option maxHeartbeats 8000000 in
theorem ur_b {w : World} (vp : Value) (p : List Ins) (hhp : InsRow w w.heap.size vp p) (x : ByteArray) (hxs : x.size ≤ 140737488355328) (HV : Hid (validB p = true)) (HX : Hid (isTree x = false)) (fuel : Int) : Calls Try.prog 5 #[vp, .string x, .int .i64 fuel] w fun e w' => e = .returned (.bool true) ∧ Below w.heap.size w w' := by
  obtain ⟨pa, pc, rfl⟩ := hhp.len
  obtain ⟨pn, hpn⟩ : ∃ z, p.length = z := ⟨_, rfl⟩
  rw [hpn] at hhp ⊢
  have hp := Lib.hid hhp
  have HPN := Lib.hid hpn
  have HXS := Lib.hid hxs
  clear hhp hpn hxs
  have ch := Lib.hid (Below.refl w.heap.size w)
  go_enter Try.func5, Try.ntmps5
  go_wp2_with fail
  refine (cvalid_at true HV.out hp.out).mono ?_
  rintro e w1 ⟨rfl, hq⟩
  replace hp := Lib.hid ((hp.out.below hq).mono hq.size)
  replace ch := Lib.hid (ch.out.trans (hq.mono ch.out.size))
  clear hq
  go_wp2_with fail
  refine (tvalid_at x HXS.out false HX.out _).mono ?_
  rintro e w2 ⟨rfl, hq⟩
  replace hp := Lib.hid ((hp.out.below hq).mono hq.size)
  replace ch := Lib.hid (ch.out.trans (hq.mono ch.out.size))
  clear hq
  go_wp2_with fail
  refine (awake06 _).mono ?_
  rintro e w3 ⟨rfl, hq⟩
  replace hp := Lib.hid ((hp.out.below hq).mono hq.size)
  replace ch := Lib.hid (ch.out.trans (hq.mono ch.out.size))
  clear hq
  go_wp2
  go_ret
  exact ⟨rfl, ch.out⟩

set_option maxRecDepth 20000 in
set_option maxHeartbeats 8000000 in
theorem ur_c {w : World} (vp : Value) (p : List Ins) (hhp : InsRow w w.heap.size vp p) (x : ByteArray) (hxs : x.size ≤ 140737488355328) (HV : Hid (validB p = true)) (HX : Hid (isTree x = true)) (fuel : Int) (hn : fuel < 0) : Calls Try.prog 5 #[vp, .string x, .int .i64 fuel] w fun e w' => e = .returned (.bool true) ∧ Below w.heap.size w w' := by
  obtain ⟨pa, pc, rfl⟩ := hhp.len
  obtain ⟨pn, hpn⟩ : ∃ z, p.length = z := ⟨_, rfl⟩
  rw [hpn] at hhp ⊢
  have hp := Lib.hid hhp
  have HPN := Lib.hid hpn
  have HXS := Lib.hid hxs
  clear hhp hpn hxs
  have ch := Lib.hid (Below.refl w.heap.size w)
  go_enter Try.func5, Try.ntmps5
  go_wp2_with fail
  refine (cvalid_at true HV.out hp.out).mono ?_
  rintro e w1 ⟨rfl, hq⟩
  replace hp := Lib.hid ((hp.out.below hq).mono hq.size)
  replace ch := Lib.hid (ch.out.trans (hq.mono ch.out.size))
  clear hq
  go_wp2_with fail
  refine (tvalid_at x HXS.out true HX.out _).mono ?_
  rintro e w2 ⟨rfl, hq⟩
  replace hp := Lib.hid ((hp.out.below hq).mono hq.size)
  replace ch := Lib.hid (ch.out.trans (hq.mono ch.out.size))
  clear hq
  go_wp2_with fail
  refine (awake06 _).mono ?_
  rintro e w3 ⟨rfl, hq⟩
  replace hp := Lib.hid ((hp.out.below hq).mono hq.size)
  replace ch := Lib.hid (ch.out.trans (hq.mono ch.out.size))
  clear hq
  go_wp2
  go_ret
  exact ⟨rfl, ch.out⟩

set_option maxRecDepth 20000 in
set_option maxHeartbeats 8000000 in
theorem ur_d {w : World} (vp : Value) (p : List Ins) (hhp : InsRow w w.heap.size vp p) (x : ByteArray) (hxs : x.size ≤ 140737488355328) (HV : Hid (validB p = true)) (HX : Hid (isTree x = true)) (fuel : Int) (hn : ¬ fuel < 0) (hl : (100000 : Int) < fuel) : Calls Try.prog 5 #[vp, .string x, .int .i64 fuel] w fun e w' => e = .returned (.bool true) ∧ Below w.heap.size w w' := by
  obtain ⟨pa, pc, rfl⟩ := hhp.len
  obtain ⟨pn, hpn⟩ : ∃ z, p.length = z := ⟨_, rfl⟩
  rw [hpn] at hhp ⊢
  have hp := Lib.hid hhp
  have HPN := Lib.hid hpn
  have HXS := Lib.hid hxs
  clear hhp hpn hxs
  have ch := Lib.hid (Below.refl w.heap.size w)
  go_enter Try.func5, Try.ntmps5
  go_wp2_with fail
  refine (cvalid_at true HV.out hp.out).mono ?_
  rintro e w1 ⟨rfl, hq⟩
  replace hp := Lib.hid ((hp.out.below hq).mono hq.size)
  replace ch := Lib.hid (ch.out.trans (hq.mono ch.out.size))
  clear hq
  go_wp2_with fail
  refine (tvalid_at x HXS.out true HX.out _).mono ?_
  rintro e w2 ⟨rfl, hq⟩
  replace hp := Lib.hid ((hp.out.below hq).mono hq.size)
  replace ch := Lib.hid (ch.out.trans (hq.mono ch.out.size))
  clear hq
  go_wp2_with fail
  refine (awake06 _).mono ?_
  rintro e w3 ⟨rfl, hq⟩
  replace hp := Lib.hid ((hp.out.below hq).mono hq.size)
  replace ch := Lib.hid (ch.out.trans (hq.mono ch.out.size))
  clear hq
  go_wp2
  go_ret
  exact ⟨rfl, ch.out⟩

set_option maxRecDepth 20000 in
set_option maxHeartbeats 8000000 in
theorem ur_e {w : World} (vp : Value) (p : List Ins) (hhp : InsRow w w.heap.size vp p) (x : ByteArray) (hxs : x.size ≤ 140737488355328) (HV : Hid (validB p = true)) (HX : Hid (isTree x = true)) (K : Nat) (HK : Hid (K ≤ 100000)) (HM : Hid (10000000 < mostU p.length K)) : Calls Try.prog 5 #[vp, .string x, .int .i64 K] w fun e w' => e = .returned (.bool true) ∧ Below w.heap.size w w' := by
  obtain ⟨pa, pc, rfl⟩ := hhp.len
  obtain ⟨pn, hpn⟩ : ∃ z, p.length = z := ⟨_, rfl⟩
  rw [hpn] at hhp ⊢
  have hp := Lib.hid hhp
  have HPN := Lib.hid hpn
  have HXS := Lib.hid hxs
  clear hhp hpn hxs
  have ch := Lib.hid (Below.refl w.heap.size w)
  go_enter Try.func5, Try.ntmps5
  go_wp2_with fail
  refine (cvalid_at true HV.out hp.out).mono ?_
  rintro e w1 ⟨rfl, hq⟩
  replace hp := Lib.hid ((hp.out.below hq).mono hq.size)
  replace ch := Lib.hid (ch.out.trans (hq.mono ch.out.size))
  clear hq
  go_wp2_with fail
  refine (tvalid_at x HXS.out true HX.out _).mono ?_
  rintro e w2 ⟨rfl, hq⟩
  replace hp := Lib.hid ((hp.out.below hq).mono hq.size)
  replace ch := Lib.hid (ch.out.trans (hq.mono ch.out.size))
  clear hq
  have hpn4 := Lib.hid (show pn ≤ 4000 by rw [← HPN.out]; exact validB_len HV.out)
  have hk0 : decide ((K : Int) < 0) = false := decide_eq_false (by omega)
  have hk1 : decide ((100000 : Int) < (K : Int)) = false := decide_eq_false (by have := HK.out; omega)
  obtain ⟨Y, hY⟩ : ∃ z, mostU pn K = z := ⟨_, rfl⟩
  have HY := Lib.hid hY
  have km := Lib.hid (fun w1 => most_at pn K pn K rfl rfl hpn4.out (by have := HK.out; omega) w1)
  rw [hY] at km
  have hy7 : decide ((10000000 : Int) < (Y : Int)) = true := by have := HM.out; rw [HPN.out, hY] at this; exact decide_eq_true (by omega)
  clear hY
  go_wp2_with fail
  refine (km.out _).mono ?_
  rintro e w3 ⟨rfl, hq⟩
  replace hp := Lib.hid ((hp.out.below hq).mono hq.size)
  replace ch := Lib.hid (ch.out.trans (hq.mono ch.out.size))
  clear hq
  clear km
  go_wp2_with fail
  refine (awake06 _).mono ?_
  rintro e w4 ⟨rfl, hq⟩
  replace hp := Lib.hid ((hp.out.below hq).mono hq.size)
  replace ch := Lib.hid (ch.out.trans (hq.mono ch.out.size))
  clear hq
  go_wp2
  go_ret
  exact ⟨rfl, ch.out⟩

set_option maxRecDepth 20000 in
set_option maxHeartbeats 8000000 in
theorem ur_f {w : World} (vp : Value) (p : List Ins) (hhp : InsRow w w.heap.size vp p) (x : ByteArray) (hxs : x.size ≤ 140737488355328) (HV : Hid (validB p = true)) (HX : Hid (isTree x = true)) (K : Nat) (HK : Hid (K ≤ 100000)) (HM : Hid (¬ 10000000 < mostU p.length K)) (HG : Hid (¬ (codeN p ≤ 2000000 ∧ (Tr.pair (codeT p) (toTr x)).size ≤ 2000000))) : Calls Try.prog 5 #[vp, .string x, .int .i64 K] w fun e w' => e = .returned (.bool true) ∧ Below w.heap.size w w' := by
  obtain ⟨pa, pc, rfl⟩ := hhp.len
  obtain ⟨pn, hpn⟩ : ∃ z, p.length = z := ⟨_, rfl⟩
  rw [hpn] at hhp ⊢
  have hp := Lib.hid hhp
  have HPN := Lib.hid hpn
  have HXS := Lib.hid hxs
  clear hhp hpn hxs
  have ch := Lib.hid (Below.refl w.heap.size w)
  go_enter Try.func5, Try.ntmps5
  go_wp2_with fail
  refine (cvalid_at true HV.out hp.out).mono ?_
  rintro e w1 ⟨rfl, hq⟩
  replace hp := Lib.hid ((hp.out.below hq).mono hq.size)
  replace ch := Lib.hid (ch.out.trans (hq.mono ch.out.size))
  clear hq
  go_wp2_with fail
  refine (tvalid_at x HXS.out true HX.out _).mono ?_
  rintro e w2 ⟨rfl, hq⟩
  replace hp := Lib.hid ((hp.out.below hq).mono hq.size)
  replace ch := Lib.hid (ch.out.trans (hq.mono ch.out.size))
  clear hq
  have hpn4 := Lib.hid (show pn ≤ 4000 by rw [← HPN.out]; exact validB_len HV.out)
  have hk0 : decide ((K : Int) < 0) = false := decide_eq_false (by omega)
  have hk1 : decide ((100000 : Int) < (K : Int)) = false := decide_eq_false (by have := HK.out; omega)
  obtain ⟨Y, hY⟩ : ∃ z, mostU pn K = z := ⟨_, rfl⟩
  have HY := Lib.hid hY
  have km := Lib.hid (fun w1 => most_at pn K pn K rfl rfl hpn4.out (by have := HK.out; omega) w1)
  rw [hY] at km
  have hy7 : decide ((10000000 : Int) < (Y : Int)) = false := by have := HM.out; rw [HPN.out, hY] at this; exact decide_eq_false (by omega)
  clear hY
  go_wp2_with fail
  refine (km.out _).mono ?_
  rintro e w3 ⟨rfl, hq⟩
  replace hp := Lib.hid ((hp.out.below hq).mono hq.size)
  replace ch := Lib.hid (ch.out.trans (hq.mono ch.out.size))
  clear hq
  clear km
  have HT := Lib.hid (str_tree x HX.out).2
  go_wp2_with fail
  refine (read_str x HX.out _).mono ?_
  rintro e w4 ⟨px, rfl, hx, hq⟩
  replace hp := Lib.hid ((hp.out.below hq).mono hq.size)
  replace ch := Lib.hid (ch.out.trans (hq.mono ch.out.size))
  clear hq
  replace hx := Lib.hid hx
  clear hk0 hk1 hy7
  go_wp2_with fail
  refine (given_none _ p hp.out _ _ hx.out HT.out HV.out HG.out).mono ?_
  rintro e w5 ⟨rfl, hq⟩
  replace hp := Lib.hid ((hp.out.below hq).mono hq.size)
  replace hx := Lib.hid (hx.out.kept (Kept.below hq))
  replace ch := Lib.hid (ch.out.trans (hq.mono ch.out.size))
  clear hq
  go_wp2_with fail
  refine (load_any _ p _ hp.out HV.out).mono ?_
  rintro e w6 ⟨gm, tv, rfl, hm, hq⟩
  replace hp := Lib.hid ((hp.out.below hq).mono hq.size)
  replace hx := Lib.hid (hx.out.kept (Kept.below hq))
  replace ch := Lib.hid (ch.out.trans (hq.mono ch.out.size))
  clear hq
  replace hm := Lib.hid hm
  go_wp2_with fail
  refine (read_str x HX.out _).mono ?_
  rintro e w7 ⟨py, rfl, hx2, hq⟩
  replace hp := Lib.hid ((hp.out.below hq).mono hq.size)
  replace hx := Lib.hid (hx.out.kept (Kept.below hq))
  replace hm := Lib.hid (mach_lift hm.out hq)
  replace ch := Lib.hid (ch.out.trans (hq.mono ch.out.size))
  clear hq
  replace hx2 := Lib.hid hx2
  go_wp2_with fail
  refine (peak_any _ _ p _ _ _ _ K (by have := HK.out; omega) hm.out hx2.out HT.out (validB_all HV.out) (validB_len HV.out)).mono ?_
  rintro e w8 ⟨q, n, M, er, rfl, hq, hM6, hsum, hcase⟩
  replace hp := Lib.hid ((hp.out.below hq).mono hq.size)
  replace hx := Lib.hid (hx.out.kept (Kept.below hq))
  replace hm := Lib.hid (mach_lift hm.out hq)
  replace hx2 := Lib.hid (hx2.out.kept (Kept.below hq))
  replace ch := Lib.hid (ch.out.trans (hq.mono ch.out.size))
  clear hq
  replace hsum := Lib.hid hsum
  have HM6 := Lib.hid hM6
  clear hM6
  clear hcase hsum
  go_wp2_with fail
  refine (universal_any _).mono ?_
  rintro e w9 ⟨vu, rfl, hu, hq⟩
  replace hp := Lib.hid ((hp.out.below hq).mono hq.size)
  replace hx := Lib.hid (hx.out.kept (Kept.below hq))
  replace hm := Lib.hid (mach_lift hm.out hq)
  replace hx2 := Lib.hid (hx2.out.kept (Kept.below hq))
  replace ch := Lib.hid (ch.out.trans (hq.mono ch.out.size))
  clear hq
  obtain ⟨ua, uc, rfl⟩ := hu.slice
  rw [univ_len] at hu ⊢
  replace hu := Lib.hid (hu.row (by rw [univ_len]; omega))
  go_wp2_with fail
  refine (cvalid_at true univ_valid hu.out).mono ?_
  rintro e w10 ⟨rfl, hq⟩
  replace hp := Lib.hid ((hp.out.below hq).mono hq.size)
  replace hx := Lib.hid (hx.out.kept (Kept.below hq))
  replace hm := Lib.hid (mach_lift hm.out hq)
  replace hx2 := Lib.hid (hx2.out.kept (Kept.below hq))
  replace hu := Lib.hid ((hu.out.below hq).mono hq.size)
  replace ch := Lib.hid (ch.out.trans (hq.mono ch.out.size))
  clear hq
  go_wp2_with fail
  refine (awake06 _).mono ?_
  rintro e w11 ⟨rfl, hq⟩
  replace hp := Lib.hid ((hp.out.below hq).mono hq.size)
  replace hx := Lib.hid (hx.out.kept (Kept.below hq))
  replace hm := Lib.hid (mach_lift hm.out hq)
  replace hx2 := Lib.hid (hx2.out.kept (Kept.below hq))
  replace hu := Lib.hid ((hu.out.below hq).mono hq.size)
  replace ch := Lib.hid (ch.out.trans (hq.mono ch.out.size))
  clear hq
  go_wp2
  go_ret
  exact ⟨rfl, ch.out⟩

set_option maxRecDepth 20000 in
set_option maxHeartbeats 8000000 in
theorem ur_g {w : World} (vp : Value) (p : List Ins) (hhp : InsRow w w.heap.size vp p) (x : ByteArray) (hxs : x.size ≤ 140737488355328) (HV : Hid (validB p = true)) (HX : Hid (isTree x = true)) (K : Nat) (HK : Hid (K ≤ 100000)) (HM : Hid (¬ 10000000 < mostU p.length K)) (HG : Hid (codeN p ≤ 2000000 ∧ (Tr.pair (codeT p) (toTr x)).size ≤ 2000000)) : Calls Try.prog 5 #[vp, .string x, .int .i64 K] w fun e w' => e = .returned (.bool true) ∧ Below w.heap.size w w' := by
  obtain ⟨pa, pc, rfl⟩ := hhp.len
  obtain ⟨pn, hpn⟩ : ∃ z, p.length = z := ⟨_, rfl⟩
  rw [hpn] at hhp ⊢
  have hp := Lib.hid hhp
  have HPN := Lib.hid hpn
  have HXS := Lib.hid hxs
  clear hhp hpn hxs
  have ch := Lib.hid (Below.refl w.heap.size w)
  go_enter Try.func5, Try.ntmps5
  go_wp2_with fail
  refine (cvalid_at true HV.out hp.out).mono ?_
  rintro e w1 ⟨rfl, hq⟩
  replace hp := Lib.hid ((hp.out.below hq).mono hq.size)
  replace ch := Lib.hid (ch.out.trans (hq.mono ch.out.size))
  clear hq
  go_wp2_with fail
  refine (tvalid_at x HXS.out true HX.out _).mono ?_
  rintro e w2 ⟨rfl, hq⟩
  replace hp := Lib.hid ((hp.out.below hq).mono hq.size)
  replace ch := Lib.hid (ch.out.trans (hq.mono ch.out.size))
  clear hq
  have hpn4 := Lib.hid (show pn ≤ 4000 by rw [← HPN.out]; exact validB_len HV.out)
  have hk0 : decide ((K : Int) < 0) = false := decide_eq_false (by omega)
  have hk1 : decide ((100000 : Int) < (K : Int)) = false := decide_eq_false (by have := HK.out; omega)
  obtain ⟨Y, hY⟩ : ∃ z, mostU pn K = z := ⟨_, rfl⟩
  have HY := Lib.hid hY
  have km := Lib.hid (fun w1 => most_at pn K pn K rfl rfl hpn4.out (by have := HK.out; omega) w1)
  rw [hY] at km
  have hy7 : decide ((10000000 : Int) < (Y : Int)) = false := by have := HM.out; rw [HPN.out, hY] at this; exact decide_eq_false (by omega)
  clear hY
  go_wp2_with fail
  refine (km.out _).mono ?_
  rintro e w3 ⟨rfl, hq⟩
  replace hp := Lib.hid ((hp.out.below hq).mono hq.size)
  replace ch := Lib.hid (ch.out.trans (hq.mono ch.out.size))
  clear hq
  clear km
  have HT := Lib.hid (str_tree x HX.out).2
  go_wp2_with fail
  refine (read_str x HX.out _).mono ?_
  rintro e w4 ⟨px, rfl, hx, hq⟩
  replace hp := Lib.hid ((hp.out.below hq).mono hq.size)
  replace ch := Lib.hid (ch.out.trans (hq.mono ch.out.size))
  clear hq
  replace hx := Lib.hid hx
  clear hk0 hk1 hy7
  go_wp2_with fail
  refine (given_ok _ p hp.out _ _ hx.out HT.out HV.out HG.out.1 HG.out.2).mono ?_
  rintro e w5 ⟨gg, rfl, hn, hq⟩
  replace hp := Lib.hid ((hp.out.below hq).mono hq.size)
  replace hx := Lib.hid (hx.out.kept (Kept.below hq))
  replace ch := Lib.hid (ch.out.trans (hq.mono ch.out.size))
  clear hq
  replace hn := Lib.hid hn
  go_wp2_with fail
  refine (load_any _ p _ hp.out HV.out).mono ?_
  rintro e w6 ⟨gm, tv, rfl, hm, hq⟩
  replace hp := Lib.hid ((hp.out.below hq).mono hq.size)
  replace hx := Lib.hid (hx.out.kept (Kept.below hq))
  replace hn := Lib.hid (hn.out.kept (Kept.below hq))
  replace ch := Lib.hid (ch.out.trans (hq.mono ch.out.size))
  clear hq
  replace hm := Lib.hid hm
  go_wp2_with fail
  refine (read_str x HX.out _).mono ?_
  rintro e w7 ⟨py, rfl, hx2, hq⟩
  replace hp := Lib.hid ((hp.out.below hq).mono hq.size)
  replace hx := Lib.hid (hx.out.kept (Kept.below hq))
  replace hn := Lib.hid (hn.out.kept (Kept.below hq))
  replace hm := Lib.hid (mach_lift hm.out hq)
  replace ch := Lib.hid (ch.out.trans (hq.mono ch.out.size))
  clear hq
  replace hx2 := Lib.hid hx2
  go_wp2_with fail
  refine (peak_any _ _ p _ _ _ _ K (by have := HK.out; omega) hm.out hx2.out HT.out (validB_all HV.out) (validB_len HV.out)).mono ?_
  rintro e w8 ⟨q, n, M, er, rfl, hq, hM6, hsum, hcase⟩
  replace hp := Lib.hid ((hp.out.below hq).mono hq.size)
  replace hx := Lib.hid (hx.out.kept (Kept.below hq))
  replace hn := Lib.hid (hn.out.kept (Kept.below hq))
  replace hm := Lib.hid (mach_lift hm.out hq)
  replace hx2 := Lib.hid (hx2.out.kept (Kept.below hq))
  replace ch := Lib.hid (ch.out.trans (hq.mono ch.out.size))
  clear hq
  replace hsum := Lib.hid hsum
  have HM6 := Lib.hid hM6
  clear hM6
  rcases hcase with ⟨sF, hg, rfl, hy⟩ | ⟨_, rfl, _⟩ | ⟨_, rfl, _⟩
  · have HQ := Lib.hid (done_parts (validB_all HV.out) HT.out hg)
    have HGF := Lib.hid hg
    clear hg
    replace hy := Lib.hid hy
    go_wp2_with fail
    refine (universal_any _).mono ?_
    rintro e w9 ⟨vu, rfl, hu, hq⟩
    replace hp := Lib.hid ((hp.out.below hq).mono hq.size)
    replace hx := Lib.hid (hx.out.kept (Kept.below hq))
    replace hn := Lib.hid (hn.out.kept (Kept.below hq))
    replace hm := Lib.hid (mach_lift hm.out hq)
    replace hx2 := Lib.hid (hx2.out.kept (Kept.below hq))
    replace hy := Lib.hid (hy.out.kept (Kept.below hq))
    replace ch := Lib.hid (ch.out.trans (hq.mono ch.out.size))
    clear hq
    obtain ⟨ua, uc, rfl⟩ := hu.slice
    rw [univ_len] at hu ⊢
    replace hu := Lib.hid (hu.row (by rw [univ_len]; omega))
    go_wp2_with fail
    refine (cvalid_at true univ_valid hu.out).mono ?_
    rintro e w10 ⟨rfl, hq⟩
    replace hp := Lib.hid ((hp.out.below hq).mono hq.size)
    replace hx := Lib.hid (hx.out.kept (Kept.below hq))
    replace hn := Lib.hid (hn.out.kept (Kept.below hq))
    replace hm := Lib.hid (mach_lift hm.out hq)
    replace hx2 := Lib.hid (hx2.out.kept (Kept.below hq))
    replace hy := Lib.hid (hy.out.kept (Kept.below hq))
    replace hu := Lib.hid ((hu.out.below hq).mono hq.size)
    replace ch := Lib.hid (ch.out.trans (hq.mono ch.out.size))
    clear hq
    go_wp2_with fail
    refine (load_any _ univL _ hu.out univ_valid).mono ?_
    rintro e w11 ⟨gu, tu, rfl, hmu, hq⟩
    replace hp := Lib.hid ((hp.out.below hq).mono hq.size)
    replace hx := Lib.hid (hx.out.kept (Kept.below hq))
    replace hn := Lib.hid (hn.out.kept (Kept.below hq))
    replace hm := Lib.hid (mach_lift hm.out hq)
    replace hx2 := Lib.hid (hx2.out.kept (Kept.below hq))
    replace hy := Lib.hid (hy.out.kept (Kept.below hq))
    replace hu := Lib.hid ((hu.out.below hq).mono hq.size)
    replace ch := Lib.hid (ch.out.trans (hq.mono ch.out.size))
    clear hq
    replace hmu := Lib.hid hmu
    obtain ⟨F, hF⟩ : ∃ z, mostU pn n = z := ⟨_, rfl⟩
    have HF := Lib.hid hF
    have hF7 := Lib.hid (show F ≤ 10000000 by have h1 := HM.out; rw [HPN.out] at h1; have h2 := mostU_mono (n := pn) HQ.out.2; rw [hF] at h2; omega)
    have km := Lib.hid (fun w1 => most_at pn n pn n rfl rfl hpn4.out (by have := HK.out; have := HQ.out.2; omega) w1)
    rw [hF] at km
    clear hF
    go_wp2_with fail
    refine (km.out _).mono ?_
    rintro e w12 ⟨rfl, hq⟩
    replace hp := Lib.hid ((hp.out.below hq).mono hq.size)
    replace hx := Lib.hid (hx.out.kept (Kept.below hq))
    replace hn := Lib.hid (hn.out.kept (Kept.below hq))
    replace hm := Lib.hid (mach_lift hm.out hq)
    replace hx2 := Lib.hid (hx2.out.kept (Kept.below hq))
    replace hy := Lib.hid (hy.out.kept (Kept.below hq))
    replace hu := Lib.hid ((hu.out.below hq).mono hq.size)
    replace hmu := Lib.hid (mach_lift hmu.out hq)
    replace ch := Lib.hid (ch.out.trans (hq.mono ch.out.size))
    clear hq
    obtain ⟨Z, hZ⟩ : ∃ z, (Tr.pair (codeT p) (toTr x)).size = z := ⟨_, rfl⟩
    have HZ := Lib.hid hZ
    clear hZ
    have hlaw := univ_law (validB_all HV.out) (validB_len HV.out) HGF.out hsum.out F
    rw [HPN.out, HF.out] at hlaw
    rcases hlaw with ⟨uF, m, hR, hE⟩ | ⟨hR, hS⟩ | ⟨_, hbad⟩
    · replace hR := Lib.hid hR
      replace hE := Lib.hid hE
      go_wp2_with fail
      refine (rrun_done F _ rfl (by have := hF7.out; omega) hR.out hmu.out hn.out HG.out.2 univ_valid).mono ?_
      rintro e w13 ⟨qz, rfl, hz, hq⟩
      replace hp := Lib.hid ((hp.out.below hq).mono hq.size)
      replace hx := Lib.hid (hx.out.kept (Kept.below hq))
      replace hn := Lib.hid (hn.out.kept (Kept.below hq))
      replace hm := Lib.hid (mach_lift hm.out hq)
      replace hx2 := Lib.hid (hx2.out.kept (Kept.below hq))
      replace hy := Lib.hid (hy.out.kept (Kept.below hq))
      replace hu := Lib.hid ((hu.out.below hq).mono hq.size)
      replace hmu := Lib.hid (mach_lift hmu.out hq)
      replace ch := Lib.hid (ch.out.trans (hq.mono ch.out.size))
      clear hq
      rw [hE.out] at hz
      replace hz := Lib.hid hz
      go_wp2_with fail
      refine (equal_self _ _ _ _ hy.out hz.out (by have := HQ.out.1; omega)).mono ?_
      rintro e w14 ⟨rfl, hq⟩
      replace hp := Lib.hid ((hp.out.below hq).mono hq.size)
      replace hx := Lib.hid (hx.out.kept (Kept.below hq))
      replace hn := Lib.hid (hn.out.kept (Kept.below hq))
      replace hm := Lib.hid (mach_lift hm.out hq)
      replace hx2 := Lib.hid (hx2.out.kept (Kept.below hq))
      replace hy := Lib.hid (hy.out.kept (Kept.below hq))
      replace hu := Lib.hid ((hu.out.below hq).mono hq.size)
      replace hmu := Lib.hid (mach_lift hmu.out hq)
      replace hz := Lib.hid (hz.out.kept (Kept.below hq))
      replace ch := Lib.hid (ch.out.trans (hq.mono ch.out.size))
      clear hq
      go_wp2_with fail
      refine (awake06 _).mono ?_
      rintro e w15 ⟨rfl, hq⟩
      replace hp := Lib.hid ((hp.out.below hq).mono hq.size)
      replace hx := Lib.hid (hx.out.kept (Kept.below hq))
      replace hn := Lib.hid (hn.out.kept (Kept.below hq))
      replace hm := Lib.hid (mach_lift hm.out hq)
      replace hx2 := Lib.hid (hx2.out.kept (Kept.below hq))
      replace hy := Lib.hid (hy.out.kept (Kept.below hq))
      replace hu := Lib.hid ((hu.out.below hq).mono hq.size)
      replace hmu := Lib.hid (mach_lift hmu.out hq)
      replace hz := Lib.hid (hz.out.kept (Kept.below hq))
      replace ch := Lib.hid (ch.out.trans (hq.mono ch.out.size))
      clear hq
      go_wp2
      go_ret
      exact ⟨rfl, ch.out⟩
    · replace hR := Lib.hid hR
      go_wp2_with fail
      refine (rrun_big F _ rfl (by have := hF7.out; omega) hR.out hmu.out hn.out HG.out.2 univ_valid).mono ?_
      rintro e w13 ⟨qz, rfl, hz, hq⟩
      replace hp := Lib.hid ((hp.out.below hq).mono hq.size)
      replace hx := Lib.hid (hx.out.kept (Kept.below hq))
      replace hn := Lib.hid (hn.out.kept (Kept.below hq))
      replace hm := Lib.hid (mach_lift hm.out hq)
      replace hx2 := Lib.hid (hx2.out.kept (Kept.below hq))
      replace hy := Lib.hid (hy.out.kept (Kept.below hq))
      replace hu := Lib.hid ((hu.out.below hq).mono hq.size)
      replace hmu := Lib.hid (mach_lift hmu.out hq)
      replace ch := Lib.hid (ch.out.trans (hq.mono ch.out.size))
      clear hq
      clear hz
      rw [HZ.out] at hS
      by_cases hb : 200000 < Z
      · have hzi : (200000 : Int) < (Z : Int) := by omega
        clear hb hS
        have cn := node_count hn.out Z HZ.out
        go_wp2_with fail
        clear cn
        refine (awake06 _).mono ?_
        rintro e w14 ⟨rfl, hq⟩
        replace hp := Lib.hid ((hp.out.below hq).mono hq.size)
        replace hx := Lib.hid (hx.out.kept (Kept.below hq))
        replace hn := Lib.hid (hn.out.kept (Kept.below hq))
        replace hm := Lib.hid (mach_lift hm.out hq)
        replace hx2 := Lib.hid (hx2.out.kept (Kept.below hq))
        replace hy := Lib.hid (hy.out.kept (Kept.below hq))
        replace hu := Lib.hid ((hu.out.below hq).mono hq.size)
        replace hmu := Lib.hid (mach_lift hmu.out hq)
        replace ch := Lib.hid (ch.out.trans (hq.mono ch.out.size))
        clear hq
        go_wp2
        go_ret
        exact ⟨rfl, ch.out⟩
      · have hzi : ¬ (200000 : Int) < (Z : Int) := by omega
        have hmi : (200000 : Int) < (M : Int) := by omega
        clear hb hS
        have cn := node_count hn.out Z HZ.out
        go_wp2_with fail
        clear cn
        refine (awake06 _).mono ?_
        rintro e w14 ⟨rfl, hq⟩
        replace hp := Lib.hid ((hp.out.below hq).mono hq.size)
        replace hx := Lib.hid (hx.out.kept (Kept.below hq))
        replace hn := Lib.hid (hn.out.kept (Kept.below hq))
        replace hm := Lib.hid (mach_lift hm.out hq)
        replace hx2 := Lib.hid (hx2.out.kept (Kept.below hq))
        replace hy := Lib.hid (hy.out.kept (Kept.below hq))
        replace hu := Lib.hid ((hu.out.below hq).mono hq.size)
        replace hmu := Lib.hid (mach_lift hmu.out hq)
        replace ch := Lib.hid (ch.out.trans (hq.mono ch.out.size))
        clear hq
        go_wp2
        go_ret
        exact ⟨rfl, ch.out⟩
    · exact absurd hbad (by omega)
  · clear hsum
    go_wp2_with fail
    refine (universal_any _).mono ?_
    rintro e w9 ⟨vu, rfl, hu, hq⟩
    replace hp := Lib.hid ((hp.out.below hq).mono hq.size)
    replace hx := Lib.hid (hx.out.kept (Kept.below hq))
    replace hn := Lib.hid (hn.out.kept (Kept.below hq))
    replace hm := Lib.hid (mach_lift hm.out hq)
    replace hx2 := Lib.hid (hx2.out.kept (Kept.below hq))
    replace ch := Lib.hid (ch.out.trans (hq.mono ch.out.size))
    clear hq
    obtain ⟨ua, uc, rfl⟩ := hu.slice
    rw [univ_len] at hu ⊢
    replace hu := Lib.hid (hu.row (by rw [univ_len]; omega))
    go_wp2_with fail
    refine (cvalid_at true univ_valid hu.out).mono ?_
    rintro e w10 ⟨rfl, hq⟩
    replace hp := Lib.hid ((hp.out.below hq).mono hq.size)
    replace hx := Lib.hid (hx.out.kept (Kept.below hq))
    replace hn := Lib.hid (hn.out.kept (Kept.below hq))
    replace hm := Lib.hid (mach_lift hm.out hq)
    replace hx2 := Lib.hid (hx2.out.kept (Kept.below hq))
    replace hu := Lib.hid ((hu.out.below hq).mono hq.size)
    replace ch := Lib.hid (ch.out.trans (hq.mono ch.out.size))
    clear hq
    go_wp2_with fail
    refine (awake06 _).mono ?_
    rintro e w11 ⟨rfl, hq⟩
    replace hp := Lib.hid ((hp.out.below hq).mono hq.size)
    replace hx := Lib.hid (hx.out.kept (Kept.below hq))
    replace hn := Lib.hid (hn.out.kept (Kept.below hq))
    replace hm := Lib.hid (mach_lift hm.out hq)
    replace hx2 := Lib.hid (hx2.out.kept (Kept.below hq))
    replace hu := Lib.hid ((hu.out.below hq).mono hq.size)
    replace ch := Lib.hid (ch.out.trans (hq.mono ch.out.size))
    clear hq
    go_wp2
    go_ret
    exact ⟨rfl, ch.out⟩
  · clear hsum
    go_wp2_with fail
    refine (universal_any _).mono ?_
    rintro e w9 ⟨vu, rfl, hu, hq⟩
    replace hp := Lib.hid ((hp.out.below hq).mono hq.size)
    replace hx := Lib.hid (hx.out.kept (Kept.below hq))
    replace hn := Lib.hid (hn.out.kept (Kept.below hq))
    replace hm := Lib.hid (mach_lift hm.out hq)
    replace hx2 := Lib.hid (hx2.out.kept (Kept.below hq))
    replace ch := Lib.hid (ch.out.trans (hq.mono ch.out.size))
    clear hq
    obtain ⟨ua, uc, rfl⟩ := hu.slice
    rw [univ_len] at hu ⊢
    replace hu := Lib.hid (hu.row (by rw [univ_len]; omega))
    go_wp2_with fail
    refine (cvalid_at true univ_valid hu.out).mono ?_
    rintro e w10 ⟨rfl, hq⟩
    replace hp := Lib.hid ((hp.out.below hq).mono hq.size)
    replace hx := Lib.hid (hx.out.kept (Kept.below hq))
    replace hn := Lib.hid (hn.out.kept (Kept.below hq))
    replace hm := Lib.hid (mach_lift hm.out hq)
    replace hx2 := Lib.hid (hx2.out.kept (Kept.below hq))
    replace hu := Lib.hid ((hu.out.below hq).mono hq.size)
    replace ch := Lib.hid (ch.out.trans (hq.mono ch.out.size))
    clear hq
    go_wp2_with fail
    refine (awake06 _).mono ?_
    rintro e w11 ⟨rfl, hq⟩
    replace hp := Lib.hid ((hp.out.below hq).mono hq.size)
    replace hx := Lib.hid (hx.out.kept (Kept.below hq))
    replace hn := Lib.hid (hn.out.kept (Kept.below hq))
    replace hm := Lib.hid (mach_lift hm.out hq)
    replace hx2 := Lib.hid (hx2.out.kept (Kept.below hq))
    replace hu := Lib.hid ((hu.out.below hq).mono hq.size)
    replace ch := Lib.hid (ch.out.trans (hq.mono ch.out.size))
    clear hq
    go_wp2
    go_ret
    exact ⟨rfl, ch.out⟩

theorem law_UnivRuns {w : World} (vp : Value) (p : List Ins) (hhp : InsRow w w.heap.size vp p) (x : ByteArray) (hxs : x.size ≤ 140737488355328) (fuel : Int) (_ : -9223372036854775808 ≤ fuel ∧ fuel ≤ 9223372036854775807) :
    Calls Try.prog 5 #[vp, .string x, .int .i64 fuel] w fun e w' => e = .returned (.bool true) ∧ Below w.heap.size w w' := by
  cases h1 : validB p with
  | false => exact ur_a vp p hhp x hxs (Lib.hid h1) fuel
  | true =>
    cases h2 : isTree x with
    | false => exact ur_b vp p hhp x hxs (Lib.hid h1) (Lib.hid h2) fuel
    | true =>
      by_cases h3 : fuel < 0
      · exact ur_c vp p hhp x hxs (Lib.hid h1) (Lib.hid h2) fuel h3
      · by_cases h4 : (100000 : Int) < fuel
        · exact ur_d vp p hhp x hxs (Lib.hid h1) (Lib.hid h2) fuel h3 h4
        · obtain ⟨K, rfl⟩ : ∃ K : Nat, fuel = K := ⟨fuel.toNat, by omega⟩
          by_cases h5 : 10000000 < mostU p.length K
          · exact ur_e vp p hhp x hxs (Lib.hid h1) (Lib.hid h2) K (Lib.hid (by omega)) (Lib.hid h5)
          · by_cases h6 : codeN p ≤ 2000000 ∧ (Tr.pair (codeT p) (toTr x)).size ≤ 2000000
            · exact ur_g vp p hhp x hxs (Lib.hid h1) (Lib.hid h2) K (Lib.hid (by omega)) (Lib.hid h5) (Lib.hid h6)
            · exact ur_f vp p hhp x hxs (Lib.hid h1) (Lib.hid h2) K (Lib.hid (by omega)) (Lib.hid h5) (Lib.hid h6)

end Go.Proofs.Ytlaeljkjdfffjaa

namespace Go.Proofs.Ytlaeljkjdfffjaa
open Go.RowKit

set_option maxRecDepth 20000 in
set_option maxHeartbeats 8000000 in
theorem uh_a {w : World} (vp : Value) (p : List Ins) (hhp : InsRow w w.heap.size vp p) (fuel : Int) (hf : -9223372036854775808 ≤ fuel ∧ fuel ≤ 9223372036854775807) (HV : Hid (validB p = false)) : Calls Try.prog 8 #[vp, .int .i64 fuel] w fun e w' => e = .returned (.bool true) ∧ Below w.heap.size w w' := by
  obtain ⟨pa, pc, rfl⟩ := hhp.len
  obtain ⟨pn, hpn⟩ : ∃ z, p.length = z := ⟨_, rfl⟩
  rw [hpn] at hhp ⊢
  have hp := Lib.hid hhp
  have HPN := Lib.hid hpn
  clear hhp hpn
  clear hf
  have ch := Lib.hid (Below.refl w.heap.size w)
  go_enter Try.func8, Try.ntmps8
  go_wp2_with fail
  refine (cvalid_at false HV.out hp.out).mono ?_
  rintro e w1 ⟨rfl, hq⟩
  replace hp := Lib.hid ((hp.out.below hq).mono hq.size)
  replace ch := Lib.hid (ch.out.trans (hq.mono ch.out.size))
  clear hq
  go_wp2_with fail
  refine (awake06 _).mono ?_
  rintro e w2 ⟨rfl, hq⟩
  replace hp := Lib.hid ((hp.out.below hq).mono hq.size)
  replace ch := Lib.hid (ch.out.trans (hq.mono ch.out.size))
  clear hq
  go_wp2
  go_ret
  exact ⟨rfl, ch.out⟩

set_option maxRecDepth 20000 in
set_option maxHeartbeats 8000000 in
theorem uh_b {w : World} (vp : Value) (p : List Ins) (hhp : InsRow w w.heap.size vp p) (fuel : Int) (hf : -9223372036854775808 ≤ fuel ∧ fuel ≤ 9223372036854775807) (HV : Hid (validB p = true)) (HC : Hid (¬ codeN p ≤ 2000000)) : Calls Try.prog 8 #[vp, .int .i64 fuel] w fun e w' => e = .returned (.bool true) ∧ Below w.heap.size w w' := by
  obtain ⟨pa, pc, rfl⟩ := hhp.len
  obtain ⟨pn, hpn⟩ : ∃ z, p.length = z := ⟨_, rfl⟩
  rw [hpn] at hhp ⊢
  have hp := Lib.hid hhp
  have HPN := Lib.hid hpn
  clear hhp hpn
  have HF := Lib.hid hf
  clear hf
  obtain ⟨cs, hcs⟩ : ∃ z, codeOf p = z := ⟨_, rfl⟩
  have hN : (cs.size : Int) = (codeN p : Nat) := by rw [← hcs]; exact codeOf_len p
  have hgt : decide ((2000000 : Int) < (cs.size : Int)) = true := by rw [hN]; exact decide_eq_true (by have := HC.out; omega)
  have HCS := Lib.hid hcs
  have HN := Lib.hid hN
  clear hcs hN
  have ch := Lib.hid (Below.refl w.heap.size w)
  go_enter Try.func8, Try.ntmps8
  go_wp2_with fail
  refine (cvalid_at true HV.out hp.out).mono ?_
  rintro e w1 ⟨rfl, hq⟩
  replace hp := Lib.hid ((hp.out.below hq).mono hq.size)
  replace ch := Lib.hid (ch.out.trans (hq.mono ch.out.size))
  clear hq
  go_wp2_with fail
  refine (rcode_at _ p cs _ hp.out HV.out HCS.out).mono ?_
  rintro e w2 ⟨rfl, hq⟩
  replace hp := Lib.hid ((hp.out.below hq).mono hq.size)
  replace ch := Lib.hid (ch.out.trans (hq.mono ch.out.size))
  clear hq
  go_wp2_with fail
  refine (awake06 _).mono ?_
  rintro e w3 ⟨rfl, hq⟩
  replace hp := Lib.hid ((hp.out.below hq).mono hq.size)
  replace ch := Lib.hid (ch.out.trans (hq.mono ch.out.size))
  clear hq
  go_wp2
  go_ret
  exact ⟨rfl, ch.out⟩

set_option maxRecDepth 20000 in
set_option maxHeartbeats 8000000 in
theorem uh_c {w : World} (vp : Value) (p : List Ins) (hhp : InsRow w w.heap.size vp p) (fuel : Int) (hf : -9223372036854775808 ≤ fuel ∧ fuel ≤ 9223372036854775807) (HV : Hid (validB p = true)) (HC : Hid (codeN p ≤ 2000000)) : Calls Try.prog 8 #[vp, .int .i64 fuel] w fun e w' => e = .returned (.bool true) ∧ Below w.heap.size w w' := by
  obtain ⟨pa, pc, rfl⟩ := hhp.len
  obtain ⟨pn, hpn⟩ : ∃ z, p.length = z := ⟨_, rfl⟩
  rw [hpn] at hhp ⊢
  have hp := Lib.hid hhp
  have HPN := Lib.hid hpn
  clear hhp hpn
  have HF := Lib.hid hf
  clear hf
  obtain ⟨cs, hcs⟩ : ∃ z, codeOf p = z := ⟨_, rfl⟩
  have hN : (cs.size : Int) = (codeN p : Nat) := by rw [← hcs]; exact codeOf_len p
  have hgt : decide ((2000000 : Int) < (cs.size : Int)) = false := by rw [hN]; exact decide_eq_false (by have := HC.out; omega)
  have HCS := Lib.hid hcs
  have HN := Lib.hid hN
  clear hcs hN
  have ch := Lib.hid (Below.refl w.heap.size w)
  go_enter Try.func8, Try.ntmps8
  go_wp2_with fail
  refine (cvalid_at true HV.out hp.out).mono ?_
  rintro e w1 ⟨rfl, hq⟩
  replace hp := Lib.hid ((hp.out.below hq).mono hq.size)
  replace ch := Lib.hid (ch.out.trans (hq.mono ch.out.size))
  clear hq
  go_wp2_with fail
  refine (rcode_at _ p cs _ hp.out HV.out HCS.out).mono ?_
  rintro e w2 ⟨rfl, hq⟩
  replace hp := Lib.hid ((hp.out.below hq).mono hq.size)
  replace ch := Lib.hid (ch.out.trans (hq.mono ch.out.size))
  clear hq
  go_wp2_with fail
  refine (rcode_at _ p cs _ hp.out HV.out HCS.out).mono ?_
  rintro e w3 ⟨rfl, hq⟩
  replace hp := Lib.hid ((hp.out.below hq).mono hq.size)
  replace ch := Lib.hid (ch.out.trans (hq.mono ch.out.size))
  clear hq
  clear hgt
  go_wp2_with fail
  refine (law_UnivRuns _ p hp.out cs (by have h1 := HN.out; have h2 := HC.out; omega) fuel HF.out).mono ?_
  rintro e w4 ⟨rfl, hq⟩
  replace hp := Lib.hid ((hp.out.below hq).mono hq.size)
  replace ch := Lib.hid (ch.out.trans (hq.mono ch.out.size))
  clear hq
  go_wp2
  go_ret
  exact ⟨rfl, ch.out⟩

theorem law_UnivHeads {w : World} (vp : Value) (p : List Ins) (hhp : InsRow w w.heap.size vp p) (fuel : Int) (hf : -9223372036854775808 ≤ fuel ∧ fuel ≤ 9223372036854775807) : Calls Try.prog 8 #[vp, .int .i64 fuel] w fun e w' => e = .returned (.bool true) ∧ Below w.heap.size w w' := by
  cases h1 : validB p with
  | false => exact uh_a vp p hhp fuel hf (Lib.hid h1)
  | true =>
    by_cases h2 : codeN p ≤ 2000000
    · exact uh_c vp p hhp fuel hf (Lib.hid h1) (Lib.hid h2)
    · exact uh_b vp p hhp fuel hf (Lib.hid h1) (Lib.hid h2)

end Go.Proofs.Ytlaeljkjdfffjaa


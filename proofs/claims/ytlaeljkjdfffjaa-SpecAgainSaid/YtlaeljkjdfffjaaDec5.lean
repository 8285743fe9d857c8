/- code.Decode. -/
import Derived.Test.YtlaeljkjdfffjaaDec4
import Derived.Test.YtlaeljkjdfffjaaMB2
import Derived.Test.YtlaeljkjdfffjaaLaw01c
import Derived.Test.YtlaeljkjdfffjaaMB1
import Derived.Test.YtlaeljkjdfffjaaMB3
namespace Go.Proofs.Ytlaeljkjdfffjaa
open Go.RowKit

theorem Boxed.below {A0 A B : World} {g : Nat} {cs : Array Value} (h : Boxed A B g cs) (hb : Below A0.heap.size A0 A) (hg : A0.heap.size = g) : Below A0.heap.size A0 B := by
  refine ⟨h.os.trans hb.os, h.tape.trans hb.tape, h.output.trans hb.output, Nat.le_trans hb.size h.size, fun k hk => ?_⟩
  rw [h.rest k (Nat.lt_of_lt_of_le hk hb.size) (by omega)]
  exact hb.block k hk
/-- What Decode leaves. -/
def DecOut (w : World) (t : Tr) (e : Ending) (w' : World) : Prop :=
  Below w.heap.size w w' ∧ ((∃ l v, decT t = some l ∧ e = .returned (.tuple #[v, .int .i64 0]) ∧ OwnI w' w.heap.size v l) ∨ (decT t = none ∧ e = .returned (.tuple #[.slice none 0 0, .int .i64 4])))
theorem DecOut.ok {w w' : World} {t : Tr} {e : Ending} {l : List Ins} {v : Value} (h : decT t = some l) (he : e = .returned (.tuple #[v, .int .i64 0])) (hr : OwnI w' w.heap.size v l) (hb : Below w.heap.size w w') : DecOut w t e w' := ⟨hb, .inl ⟨l, v, h, he, hr⟩⟩
end Go.Proofs.Ytlaeljkjdfffjaa


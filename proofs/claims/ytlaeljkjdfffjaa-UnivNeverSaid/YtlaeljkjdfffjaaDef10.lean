/- law09: DefeatWrong. -/
import Derived.Test.YtlaeljkjdfffjaaDef9
namespace Go.Proofs.Ytlaeljkjdfffjaa
open Go.RowKit

theorem equal_b (b : Bool) {t t' : Tr} {va vb : Value} {w : World} (h1 : NodeP 58 w t' va) (h2 : NodeP 58 w t vb) (hs : t.size ≤ 4000001) (hb : decide (t' = t) = b) :
    Calls Try.prog 37 #[va, vb] w fun e w' => e = .returned (.bool b) ∧ Below w.heap.size w w' := by
  have := equal_any t t' va vb w h1 h2 hs
  rwa [show decide (t = t') = b by rw [← hb]; exact decide_eq_decide.2 eq_comm] at this
end Go.Proofs.Ytlaeljkjdfffjaa


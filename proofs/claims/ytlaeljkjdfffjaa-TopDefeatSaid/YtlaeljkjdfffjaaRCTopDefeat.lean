/- The facts of the form of the claim narcissustop.TopDefeat, in a text of their own: the kernel wants much memory for them. -/
import Derived.Test.YtlaeljkjdfffjaaRowG
namespace Go.Proofs.Ytlaeljkjdfffjaa.rTopDefeat
set_option maxRecDepth 100000 in
set_option maxHeartbeats 16000000 in
theorem closed : joinedFacts Try.pinned.checked.prog 13 Try.f13 Rows.topDefeatSpec Rows.topDefeatRow = true := by
  unfold joinedFacts
  repeat' (with_reducible refine Bool.and_eq_true_iff.2 (And.intro ?_ ?_))
  all_goals decide +kernel
end Go.Proofs.Ytlaeljkjdfffjaa.rTopDefeat


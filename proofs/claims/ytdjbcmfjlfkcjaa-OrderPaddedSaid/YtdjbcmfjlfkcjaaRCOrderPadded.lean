/- The facts of the form of the claim narcissuslaw10.OrderPadded, in a text of their own, each checked by itself: the kernel wants much memory for them. -/
import Derived.Test.YtdjbcmfjlfkcjaaRowG
namespace Go.Proofs.Ytdjbcmfjlfkcjaa.rOrderPadded
set_option maxRecDepth 100000 in
set_option maxHeartbeats 16000000 in
theorem closed : joinedFacts Try.pinned.checked.prog 15 Try.f15 Rows.orderPaddedSpec Rows.orderPaddedRow = true := by
  unfold joinedFacts
  repeat' (with_reducible refine Bool.and_eq_true_iff.2 (And.intro ?_ ?_))
  all_goals decide +kernel
end Go.Proofs.Ytdjbcmfjlfkcjaa.rOrderPadded


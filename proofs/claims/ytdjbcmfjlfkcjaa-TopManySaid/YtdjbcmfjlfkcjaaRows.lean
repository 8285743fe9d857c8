/-
  No cell of these rows narrows 'for every input' (looked for: loops, veiled, ifaces, maps, wideKeys, modest, calm, conditions, laid).
  DERIVED. THE GIVEN ROWS OF THIS SEAT. 17 by the template 'for every input the law returns true; each argument reads behind the call as it read before'; 0 by the template 'total and deterministic' (their statements: YtdjbcmfjlfkcjaaTotals.lean).
  GIVEN WITH THE SEED: the statements are not yours to turn. If you find one false, say at which input.
  Laid BY PROGRAM, IN A SANDBOX (cutbox-rows.mjs): the forced cells as the released guide's own fill.sh prints them over the translation 7d7a5b3a596ebacd… (all of the seat's roots in one cut). By AI agents, Wed Nov 11 2026. No macro, syntax, notation, axiom, sorry.
-/
import Derived.Test.YtdjbcmfjlfkcjaaChecked
import GoSem.Claim
import GoSem.ClaimJoined
import GoSem.ClaimMapViews
import Derived.JoinedTies
import Derived.KernelRfl
namespace Go.Proofs.Ytdjbcmfjlfkcjaa
/- THE CELL 'sum', in the pinned program and in every row, IS THE sha256 OF THE DUMP (.gsa) THAT YtdjbcmfjlfkcjaaProg.lean LOADS. Nothing in Lean hashes anything: it is a label: what it is worth is what the hold of that sum in a sandbox is worth. -/
noncomputable def Try.pinned : Pinned := { name := "ytdjbcmfjlfkcjaa", sum := "7d7a5b3a596ebacd1dbe03938c233c1c18157c51ac49d248169a4e92a8b110cc", checked := Try.checked }
namespace Rows
def none {H : Type} : Left H := { results := [], args := [] }

/-- 'narcissustop.TopLooped': WHATEVER THE INPUT: true; the input reads as it did. -/
def topLoopedSpec : ChangeSpec := { name := "topLooped", fn := fun _ => fun
  | [d1, d2, d3] => { results := [.lit (.bool true)], args := [d1, d2, d3] }
  | _ => none }
def topLoopedRow : OpenClaim := { program := "ytdjbcmfjlfkcjaa", sum := "7d7a5b3a596ebacd1dbe03938c233c1c18157c51ac49d248169a4e92a8b110cc", func := "narcissus/narcissustop.TopLooped", spec := "topLooped", apart := false }
def TopLoopedSaid : Prop := topLoopedRow.holds Try.pinned (OpenSpec.ofChange topLoopedSpec)

/-- ITS FALSE NEIGHBOUR: 'it returns false'. Refute it at one input. -/
def topLoopedWrong : ChangeSpec := { name := "topLooped", fn := fun _ => fun
  | [d1, d2, d3] => { results := [.lit (.bool false)], args := [d1, d2, d3] }
  | _ => none }
def TopLoopedWrongFalsely : Prop := topLoopedRow.holds Try.pinned (OpenSpec.ofChange topLoopedWrong)

/-- 'narcissustop.TopComposed': WHATEVER THE INPUT: true; the input reads as it did. -/
def topComposedSpec : ChangeSpec := { name := "topComposed", fn := fun _ => fun
  | [d1, d2, d3] => { results := [.lit (.bool true)], args := [d1, d2, d3] }
  | _ => none }
def topComposedRow : OpenClaim := { program := "ytdjbcmfjlfkcjaa", sum := "7d7a5b3a596ebacd1dbe03938c233c1c18157c51ac49d248169a4e92a8b110cc", func := "narcissus/narcissustop.TopComposed", spec := "topComposed", apart := false }
def TopComposedSaid : Prop := topComposedRow.holds Try.pinned (OpenSpec.ofChange topComposedSpec)

/-- ITS FALSE NEIGHBOUR: 'it returns false'. Refute it at one input. -/
def topComposedWrong : ChangeSpec := { name := "topComposed", fn := fun _ => fun
  | [d1, d2, d3] => { results := [.lit (.bool false)], args := [d1, d2, d3] }
  | _ => none }
def TopComposedWrongFalsely : Prop := topComposedRow.holds Try.pinned (OpenSpec.ofChange topComposedWrong)

/-- 'narcissuslaw10.OrderRanks': WHATEVER THE INPUT: true; the input reads as it did. -/
def orderRanksSpec : ChangeSpec := { name := "orderRanks", fn := fun _ => fun
  | [d] => { results := [.lit (.bool true)], args := [d] }
  | _ => none }
def orderRanksRow : OpenClaim := { program := "ytdjbcmfjlfkcjaa", sum := "7d7a5b3a596ebacd1dbe03938c233c1c18157c51ac49d248169a4e92a8b110cc", func := "narcissus/narcissuslaw10.OrderRanks", spec := "orderRanks", inPlace := ["internal/abi.NoEscape", "internal/bytealg.MakeNoZero"], unfollowed := true, recurses := true, apart := false }
def OrderRanksSaid : Prop := orderRanksRow.holds Try.pinned (OpenSpec.ofChange orderRanksSpec)

/-- ITS FALSE NEIGHBOUR: 'it returns false'. Refute it at one input. -/
def orderRanksWrong : ChangeSpec := { name := "orderRanks", fn := fun _ => fun
  | [d] => { results := [.lit (.bool false)], args := [d] }
  | _ => none }
def OrderRanksWrongFalsely : Prop := orderRanksRow.holds Try.pinned (OpenSpec.ofChange orderRanksWrong)

/-- 'narcissuslaw10.OrderUnranks': WHATEVER THE INPUT: true; the input reads as it did. -/
def orderUnranksSpec : ChangeSpec := { name := "orderUnranks", fn := fun _ => fun
  | [d] => { results := [.lit (.bool true)], args := [d] }
  | _ => none }
def orderUnranksRow : OpenClaim := { program := "ytdjbcmfjlfkcjaa", sum := "7d7a5b3a596ebacd1dbe03938c233c1c18157c51ac49d248169a4e92a8b110cc", func := "narcissus/narcissuslaw10.OrderUnranks", spec := "orderUnranks", inPlace := ["internal/abi.NoEscape", "internal/bytealg.MakeNoZero"], unfollowed := true, recurses := true, apart := false }
def OrderUnranksSaid : Prop := orderUnranksRow.holds Try.pinned (OpenSpec.ofChange orderUnranksSpec)

/-- ITS FALSE NEIGHBOUR: 'it returns false'. Refute it at one input. -/
def orderUnranksWrong : ChangeSpec := { name := "orderUnranks", fn := fun _ => fun
  | [d] => { results := [.lit (.bool false)], args := [d] }
  | _ => none }
def OrderUnranksWrongFalsely : Prop := orderUnranksRow.holds Try.pinned (OpenSpec.ofChange orderUnranksWrong)

/-- 'narcissuslaw10.OrderLists': WHATEVER THE INPUT: true; the input reads as it did. -/
def orderListsSpec : ChangeSpec := { name := "orderLists", fn := fun _ => fun
  | [d] => { results := [.lit (.bool true)], args := [d] }
  | _ => none }
def orderListsRow : OpenClaim := { program := "ytdjbcmfjlfkcjaa", sum := "7d7a5b3a596ebacd1dbe03938c233c1c18157c51ac49d248169a4e92a8b110cc", func := "narcissus/narcissuslaw10.OrderLists", spec := "orderLists", inPlace := ["internal/abi.NoEscape", "internal/bytealg.MakeNoZero"], unfollowed := true, recurses := true, apart := false }
def OrderListsSaid : Prop := orderListsRow.holds Try.pinned (OpenSpec.ofChange orderListsSpec)

/-- ITS FALSE NEIGHBOUR: 'it returns false'. Refute it at one input. -/
def orderListsWrong : ChangeSpec := { name := "orderLists", fn := fun _ => fun
  | [d] => { results := [.lit (.bool false)], args := [d] }
  | _ => none }
def OrderListsWrongFalsely : Prop := orderListsRow.holds Try.pinned (OpenSpec.ofChange orderListsWrong)

/-- 'narcissuslaw10.OrderBack': WHATEVER THE INPUT: true; the input reads as it did. -/
def orderBackSpec : ChangeSpec := { name := "orderBack", fn := fun _ => fun
  | [d1, d2, d3] => { results := [.lit (.bool true)], args := [d1, d2, d3] }
  | _ => none }
def orderBackRow : OpenClaim := { program := "ytdjbcmfjlfkcjaa", sum := "7d7a5b3a596ebacd1dbe03938c233c1c18157c51ac49d248169a4e92a8b110cc", func := "narcissus/narcissuslaw10.OrderBack", spec := "orderBack", inPlace := ["internal/abi.NoEscape", "internal/bytealg.MakeNoZero"], unfollowed := true, recurses := true, apart := false }
def OrderBackSaid : Prop := orderBackRow.holds Try.pinned (OpenSpec.ofChange orderBackSpec)

/-- ITS FALSE NEIGHBOUR: 'it returns false'. Refute it at one input. -/
def orderBackWrong : ChangeSpec := { name := "orderBack", fn := fun _ => fun
  | [d1, d2, d3] => { results := [.lit (.bool false)], args := [d1, d2, d3] }
  | _ => none }
def OrderBackWrongFalsely : Prop := orderBackRow.holds Try.pinned (OpenSpec.ofChange orderBackWrong)

/-- 'narcissuslaw10.OrderAfter': WHATEVER THE INPUT: true; the input reads as it did. -/
def orderAfterSpec : ChangeSpec := { name := "orderAfter", fn := fun _ => fun
  | [d1, d2] => { results := [.lit (.bool true)], args := [d1, d2] }
  | _ => none }
def orderAfterRow : OpenClaim := { program := "ytdjbcmfjlfkcjaa", sum := "7d7a5b3a596ebacd1dbe03938c233c1c18157c51ac49d248169a4e92a8b110cc", func := "narcissus/narcissuslaw10.OrderAfter", spec := "orderAfter", inPlace := ["internal/abi.NoEscape", "internal/bytealg.MakeNoZero"], unfollowed := true, recurses := true, apart := false }
def OrderAfterSaid : Prop := orderAfterRow.holds Try.pinned (OpenSpec.ofChange orderAfterSpec)

/-- ITS FALSE NEIGHBOUR: 'it returns false'. Refute it at one input. -/
def orderAfterWrong : ChangeSpec := { name := "orderAfter", fn := fun _ => fun
  | [d1, d2] => { results := [.lit (.bool false)], args := [d1, d2] }
  | _ => none }
def OrderAfterWrongFalsely : Prop := orderAfterRow.holds Try.pinned (OpenSpec.ofChange orderAfterWrong)

/-- 'narcissuslaw10.OrderListed': WHATEVER THE INPUT: true; the input reads as it did. -/
def orderListedSpec : ChangeSpec := { name := "orderListed", fn := fun _ => fun
  | [d1, d2] => { results := [.lit (.bool true)], args := [d1, d2] }
  | _ => none }
def orderListedRow : OpenClaim := { program := "ytdjbcmfjlfkcjaa", sum := "7d7a5b3a596ebacd1dbe03938c233c1c18157c51ac49d248169a4e92a8b110cc", func := "narcissus/narcissuslaw10.OrderListed", spec := "orderListed", inPlace := ["internal/abi.NoEscape", "internal/bytealg.MakeNoZero"], unfollowed := true, recurses := true, apart := false }
def OrderListedSaid : Prop := orderListedRow.holds Try.pinned (OpenSpec.ofChange orderListedSpec)

/-- ITS FALSE NEIGHBOUR: 'it returns false'. Refute it at one input. -/
def orderListedWrong : ChangeSpec := { name := "orderListed", fn := fun _ => fun
  | [d1, d2] => { results := [.lit (.bool false)], args := [d1, d2] }
  | _ => none }
def OrderListedWrongFalsely : Prop := orderListedRow.holds Try.pinned (OpenSpec.ofChange orderListedWrong)

/-- 'narcissuslaw10.OrderCounts': WHATEVER THE INPUT: true; the input reads as it did. -/
def orderCountsSpec : ChangeSpec := { name := "orderCounts", fn := fun _ => fun
  | [d] => { results := [.lit (.bool true)], args := [d] }
  | _ => none }
def orderCountsRow : OpenClaim := { program := "ytdjbcmfjlfkcjaa", sum := "7d7a5b3a596ebacd1dbe03938c233c1c18157c51ac49d248169a4e92a8b110cc", func := "narcissus/narcissuslaw10.OrderCounts", spec := "orderCounts", inPlace := ["internal/abi.NoEscape", "internal/bytealg.MakeNoZero"], unfollowed := true, recurses := true, apart := false }
def OrderCountsSaid : Prop := orderCountsRow.holds Try.pinned (OpenSpec.ofChange orderCountsSpec)

/-- ITS FALSE NEIGHBOUR: 'it returns false'. Refute it at one input. -/
def orderCountsWrong : ChangeSpec := { name := "orderCounts", fn := fun _ => fun
  | [d] => { results := [.lit (.bool false)], args := [d] }
  | _ => none }
def OrderCountsWrongFalsely : Prop := orderCountsRow.holds Try.pinned (OpenSpec.ofChange orderCountsWrong)

/-- 'narcissuslaw10.OrderSums': WHATEVER THE INPUT: true; the input reads as it did. -/
def orderSumsSpec : ChangeSpec := { name := "orderSums", fn := fun _ => fun
  | [d] => { results := [.lit (.bool true)], args := [d] }
  | _ => none }
def orderSumsRow : OpenClaim := { program := "ytdjbcmfjlfkcjaa", sum := "7d7a5b3a596ebacd1dbe03938c233c1c18157c51ac49d248169a4e92a8b110cc", func := "narcissus/narcissuslaw10.OrderSums", spec := "orderSums", inPlace := ["internal/abi.NoEscape", "internal/bytealg.MakeNoZero"], unfollowed := true, recurses := true, apart := false }
def OrderSumsSaid : Prop := orderSumsRow.holds Try.pinned (OpenSpec.ofChange orderSumsSpec)

/-- ITS FALSE NEIGHBOUR: 'it returns false'. Refute it at one input. -/
def orderSumsWrong : ChangeSpec := { name := "orderSums", fn := fun _ => fun
  | [d] => { results := [.lit (.bool false)], args := [d] }
  | _ => none }
def OrderSumsWrongFalsely : Prop := orderSumsRow.holds Try.pinned (OpenSpec.ofChange orderSumsWrong)

/-- 'narcissuslaw10.OrderNumbers': WHATEVER THE INPUT: true; the input reads as it did. -/
def orderNumbersSpec : ChangeSpec := { name := "orderNumbers", fn := fun _ => fun
  | [d] => { results := [.lit (.bool true)], args := [d] }
  | _ => none }
def orderNumbersRow : OpenClaim := { program := "ytdjbcmfjlfkcjaa", sum := "7d7a5b3a596ebacd1dbe03938c233c1c18157c51ac49d248169a4e92a8b110cc", func := "narcissus/narcissuslaw10.OrderNumbers", spec := "orderNumbers", inPlace := ["internal/abi.NoEscape", "internal/bytealg.MakeNoZero"], unfollowed := true, recurses := true, apart := false }
def OrderNumbersSaid : Prop := orderNumbersRow.holds Try.pinned (OpenSpec.ofChange orderNumbersSpec)

/-- ITS FALSE NEIGHBOUR: 'it returns false'. Refute it at one input. -/
def orderNumbersWrong : ChangeSpec := { name := "orderNumbers", fn := fun _ => fun
  | [d] => { results := [.lit (.bool false)], args := [d] }
  | _ => none }
def OrderNumbersWrongFalsely : Prop := orderNumbersRow.holds Try.pinned (OpenSpec.ofChange orderNumbersWrong)

/-- 'narcissuslaw10.OrderPads': WHATEVER THE INPUT: true; the input reads as it did. -/
def orderPadsSpec : ChangeSpec := { name := "orderPads", fn := fun _ => fun
  | [d1, d2] => { results := [.lit (.bool true)], args := [d1, d2] }
  | _ => none }
def orderPadsRow : OpenClaim := { program := "ytdjbcmfjlfkcjaa", sum := "7d7a5b3a596ebacd1dbe03938c233c1c18157c51ac49d248169a4e92a8b110cc", func := "narcissus/narcissuslaw10.OrderPads", spec := "orderPads", inPlace := ["internal/abi.NoEscape", "internal/bytealg.MakeNoZero"], unfollowed := true, recurses := true, apart := false }
def OrderPadsSaid : Prop := orderPadsRow.holds Try.pinned (OpenSpec.ofChange orderPadsSpec)

/-- ITS FALSE NEIGHBOUR: 'it returns false'. Refute it at one input. -/
def orderPadsWrong : ChangeSpec := { name := "orderPads", fn := fun _ => fun
  | [d1, d2] => { results := [.lit (.bool false)], args := [d1, d2] }
  | _ => none }
def OrderPadsWrongFalsely : Prop := orderPadsRow.holds Try.pinned (OpenSpec.ofChange orderPadsWrong)

/-- 'narcissuslaw10.OrderPadded': WHATEVER THE INPUT: true; the input reads as it did. -/
def orderPaddedSpec : ChangeSpec := { name := "orderPadded", fn := fun _ => fun
  | [d1, d2, d3, d4] => { results := [.lit (.bool true)], args := [d1, d2, d3, d4] }
  | _ => none }
def orderPaddedRow : OpenClaim := { program := "ytdjbcmfjlfkcjaa", sum := "7d7a5b3a596ebacd1dbe03938c233c1c18157c51ac49d248169a4e92a8b110cc", func := "narcissus/narcissuslaw10.OrderPadded", spec := "orderPadded", inPlace := ["internal/abi.NoEscape", "internal/bytealg.MakeNoZero"], unfollowed := true, recurses := true, apart := false }
def OrderPaddedSaid : Prop := orderPaddedRow.holds Try.pinned (OpenSpec.ofChange orderPaddedSpec)

/-- ITS FALSE NEIGHBOUR: 'it returns false'. Refute it at one input. -/
def orderPaddedWrong : ChangeSpec := { name := "orderPadded", fn := fun _ => fun
  | [d1, d2, d3, d4] => { results := [.lit (.bool false)], args := [d1, d2, d3, d4] }
  | _ => none }
def OrderPaddedWrongFalsely : Prop := orderPaddedRow.holds Try.pinned (OpenSpec.ofChange orderPaddedWrong)

/-- 'narcissustop.TopMany': WHATEVER THE INPUT: true; the input reads as it did. -/
def topManySpec : ChangeSpec := { name := "topMany", fn := fun _ => fun
  | [d1, d2, d3] => { results := [.lit (.bool true)], args := [d1, d2, d3] }
  | _ => none }
def topManyRow : OpenClaim := { program := "ytdjbcmfjlfkcjaa", sum := "7d7a5b3a596ebacd1dbe03938c233c1c18157c51ac49d248169a4e92a8b110cc", func := "narcissus/narcissustop.TopMany", spec := "topMany", inPlace := ["internal/abi.NoEscape", "internal/bytealg.MakeNoZero"], apart := false }
def TopManySaid : Prop := topManyRow.holds Try.pinned (OpenSpec.ofChange topManySpec)

/-- ITS FALSE NEIGHBOUR: 'it returns false'. Refute it at one input. -/
def topManyWrong : ChangeSpec := { name := "topMany", fn := fun _ => fun
  | [d1, d2, d3] => { results := [.lit (.bool false)], args := [d1, d2, d3] }
  | _ => none }
def TopManyWrongFalsely : Prop := topManyRow.holds Try.pinned (OpenSpec.ofChange topManyWrong)

/-- 'narcissustop.TopKnow': WHATEVER THE INPUT: true; the input reads as it did. -/
def topKnowSpec : ChangeSpec := { name := "topKnow", fn := fun _ => fun
  | [d1, d2] => { results := [.lit (.bool true)], args := [d1, d2] }
  | _ => none }
def topKnowRow : OpenClaim := { program := "ytdjbcmfjlfkcjaa", sum := "7d7a5b3a596ebacd1dbe03938c233c1c18157c51ac49d248169a4e92a8b110cc", func := "narcissus/narcissustop.TopKnow", spec := "topKnow", inPlace := ["internal/abi.NoEscape", "internal/bytealg.MakeNoZero"], unfollowed := true, recurses := true, apart := false }
def TopKnowSaid : Prop := topKnowRow.holds Try.pinned (OpenSpec.ofChange topKnowSpec)

/-- ITS FALSE NEIGHBOUR: 'it returns false'. Refute it at one input. -/
def topKnowWrong : ChangeSpec := { name := "topKnow", fn := fun _ => fun
  | [d1, d2] => { results := [.lit (.bool false)], args := [d1, d2] }
  | _ => none }
def TopKnowWrongFalsely : Prop := topKnowRow.holds Try.pinned (OpenSpec.ofChange topKnowWrong)

/-- 'narcissustop.TopLiar': WHATEVER THE INPUT: true; the input reads as it did. -/
def topLiarSpec : ChangeSpec := { name := "topLiar", fn := fun _ => fun
  | [d1, d2] => { results := [.lit (.bool true)], args := [d1, d2] }
  | _ => none }
def topLiarRow : OpenClaim := { program := "ytdjbcmfjlfkcjaa", sum := "7d7a5b3a596ebacd1dbe03938c233c1c18157c51ac49d248169a4e92a8b110cc", func := "narcissus/narcissustop.TopLiar", spec := "topLiar", inPlace := ["internal/abi.NoEscape", "internal/bytealg.MakeNoZero"], unfollowed := true, recurses := true, apart := false }
def TopLiarSaid : Prop := topLiarRow.holds Try.pinned (OpenSpec.ofChange topLiarSpec)

/-- ITS FALSE NEIGHBOUR: 'it returns false'. Refute it at one input. -/
def topLiarWrong : ChangeSpec := { name := "topLiar", fn := fun _ => fun
  | [d1, d2] => { results := [.lit (.bool false)], args := [d1, d2] }
  | _ => none }
def TopLiarWrongFalsely : Prop := topLiarRow.holds Try.pinned (OpenSpec.ofChange topLiarWrong)

/-- 'narcissustop.TopDefeat': WHATEVER THE INPUT: true; the input reads as it did. -/
def topDefeatSpec : ChangeSpec := { name := "topDefeat", fn := fun _ => fun
  | [d1, d2, d3] => { results := [.lit (.bool true)], args := [d1, d2, d3] }
  | _ => none }
def topDefeatRow : OpenClaim := { program := "ytdjbcmfjlfkcjaa", sum := "7d7a5b3a596ebacd1dbe03938c233c1c18157c51ac49d248169a4e92a8b110cc", func := "narcissus/narcissustop.TopDefeat", spec := "topDefeat", inPlace := ["internal/abi.NoEscape", "internal/bytealg.MakeNoZero"], unfollowed := true, recurses := true, apart := false }
def TopDefeatSaid : Prop := topDefeatRow.holds Try.pinned (OpenSpec.ofChange topDefeatSpec)

/-- ITS FALSE NEIGHBOUR: 'it returns false'. Refute it at one input. -/
def topDefeatWrong : ChangeSpec := { name := "topDefeat", fn := fun _ => fun
  | [d1, d2, d3] => { results := [.lit (.bool false)], args := [d1, d2, d3] }
  | _ => none }
def TopDefeatWrongFalsely : Prop := topDefeatRow.holds Try.pinned (OpenSpec.ofChange topDefeatWrong)

/- THE SECOND FORM. 'bulk': how many values and letters a reading holds, each counted each time it is reached (what is shared counts as often as it is met; a slice's spare places count too). A statement '..UptoSaid' is the law's where the arguments, and the package variables that the reading takes, are together of bulk at most 1048576: NARROWER than '..Said'. Prove '..Said' where nothing that the law and all that it calls make is longer than what came in: it says more and counts as full. Else prove '..UptoSaid'. A law counts once. -/
mutual
def uptoBulk {H : Type} : DataW H → Nat
  | .lit (.string bytes) => bytes.length + 1
  | .lit _ => 1
  | .nil => 1
  | .ptr d => uptoBulk d + 1
  | .slice elems spare => uptoBulkAll elems + uptoBulkAll spare + 1
  | .agg parts => uptoBulkAll parts + 1
  | .iface _ d => uptoBulk d + 1
  | .map entries => uptoBulkEntries entries + 1
  | .held _ => 1
def uptoBulkAll {H : Type} : List (DataW H) → Nat
  | [] => 0
  | d :: r => uptoBulk d + uptoBulkAll r
def uptoBulkEntries {H : Type} : List (Lit × DataW H) → Nat
  | [] => 0
  | x :: r => uptoBulkEntry x + uptoBulkEntries r
def uptoBulkEntry {H : Type} : Lit × DataW H → Nat
  | (.string bytes, d) => bytes.length + uptoBulk d + 1
  | (_, d) => uptoBulk d + 1
 end
def uptoSmall : (H : Type) → List (DataW H) → Bool := fun _ ds => decide (uptoBulkAll ds ≤ 1048576)
def OpenSpec.upto (s : _root_.Go.ChangeSpec) : _root_.Go.OpenSpec := { _root_.Go.OpenSpec.ofChange s with cond := some uptoSmall }

/-- 'narcissustop.TopLooped', WHERE WHAT IT READS IS OF BULK AT MOST 1048576: true; the input reads as it did. -/
def topLoopedUptoRow : OpenClaim := { program := "ytdjbcmfjlfkcjaa", sum := "7d7a5b3a596ebacd1dbe03938c233c1c18157c51ac49d248169a4e92a8b110cc", func := "narcissus/narcissustop.TopLooped", spec := "topLooped", apart := false, narrowed := true }
def TopLoopedUptoSaid : Prop := topLoopedUptoRow.holds Try.pinned (OpenSpec.upto topLoopedSpec)

/-- 'narcissustop.TopComposed', WHERE WHAT IT READS IS OF BULK AT MOST 1048576: true; the input reads as it did. -/
def topComposedUptoRow : OpenClaim := { program := "ytdjbcmfjlfkcjaa", sum := "7d7a5b3a596ebacd1dbe03938c233c1c18157c51ac49d248169a4e92a8b110cc", func := "narcissus/narcissustop.TopComposed", spec := "topComposed", apart := false, narrowed := true }
def TopComposedUptoSaid : Prop := topComposedUptoRow.holds Try.pinned (OpenSpec.upto topComposedSpec)

/-- 'narcissuslaw10.OrderRanks', WHERE WHAT IT READS IS OF BULK AT MOST 1048576: true; the input reads as it did. -/
def orderRanksUptoRow : OpenClaim := { program := "ytdjbcmfjlfkcjaa", sum := "7d7a5b3a596ebacd1dbe03938c233c1c18157c51ac49d248169a4e92a8b110cc", func := "narcissus/narcissuslaw10.OrderRanks", spec := "orderRanks", inPlace := ["internal/abi.NoEscape", "internal/bytealg.MakeNoZero"], unfollowed := true, recurses := true, apart := false, narrowed := true }
def OrderRanksUptoSaid : Prop := orderRanksUptoRow.holds Try.pinned (OpenSpec.upto orderRanksSpec)

/-- 'narcissuslaw10.OrderUnranks', WHERE WHAT IT READS IS OF BULK AT MOST 1048576: true; the input reads as it did. -/
def orderUnranksUptoRow : OpenClaim := { program := "ytdjbcmfjlfkcjaa", sum := "7d7a5b3a596ebacd1dbe03938c233c1c18157c51ac49d248169a4e92a8b110cc", func := "narcissus/narcissuslaw10.OrderUnranks", spec := "orderUnranks", inPlace := ["internal/abi.NoEscape", "internal/bytealg.MakeNoZero"], unfollowed := true, recurses := true, apart := false, narrowed := true }
def OrderUnranksUptoSaid : Prop := orderUnranksUptoRow.holds Try.pinned (OpenSpec.upto orderUnranksSpec)

/-- 'narcissuslaw10.OrderLists', WHERE WHAT IT READS IS OF BULK AT MOST 1048576: true; the input reads as it did. -/
def orderListsUptoRow : OpenClaim := { program := "ytdjbcmfjlfkcjaa", sum := "7d7a5b3a596ebacd1dbe03938c233c1c18157c51ac49d248169a4e92a8b110cc", func := "narcissus/narcissuslaw10.OrderLists", spec := "orderLists", inPlace := ["internal/abi.NoEscape", "internal/bytealg.MakeNoZero"], unfollowed := true, recurses := true, apart := false, narrowed := true }
def OrderListsUptoSaid : Prop := orderListsUptoRow.holds Try.pinned (OpenSpec.upto orderListsSpec)

/-- 'narcissuslaw10.OrderBack', WHERE WHAT IT READS IS OF BULK AT MOST 1048576: true; the input reads as it did. -/
def orderBackUptoRow : OpenClaim := { program := "ytdjbcmfjlfkcjaa", sum := "7d7a5b3a596ebacd1dbe03938c233c1c18157c51ac49d248169a4e92a8b110cc", func := "narcissus/narcissuslaw10.OrderBack", spec := "orderBack", inPlace := ["internal/abi.NoEscape", "internal/bytealg.MakeNoZero"], unfollowed := true, recurses := true, apart := false, narrowed := true }
def OrderBackUptoSaid : Prop := orderBackUptoRow.holds Try.pinned (OpenSpec.upto orderBackSpec)

/-- 'narcissuslaw10.OrderAfter', WHERE WHAT IT READS IS OF BULK AT MOST 1048576: true; the input reads as it did. -/
def orderAfterUptoRow : OpenClaim := { program := "ytdjbcmfjlfkcjaa", sum := "7d7a5b3a596ebacd1dbe03938c233c1c18157c51ac49d248169a4e92a8b110cc", func := "narcissus/narcissuslaw10.OrderAfter", spec := "orderAfter", inPlace := ["internal/abi.NoEscape", "internal/bytealg.MakeNoZero"], unfollowed := true, recurses := true, apart := false, narrowed := true }
def OrderAfterUptoSaid : Prop := orderAfterUptoRow.holds Try.pinned (OpenSpec.upto orderAfterSpec)

/-- 'narcissuslaw10.OrderListed', WHERE WHAT IT READS IS OF BULK AT MOST 1048576: true; the input reads as it did. -/
def orderListedUptoRow : OpenClaim := { program := "ytdjbcmfjlfkcjaa", sum := "7d7a5b3a596ebacd1dbe03938c233c1c18157c51ac49d248169a4e92a8b110cc", func := "narcissus/narcissuslaw10.OrderListed", spec := "orderListed", inPlace := ["internal/abi.NoEscape", "internal/bytealg.MakeNoZero"], unfollowed := true, recurses := true, apart := false, narrowed := true }
def OrderListedUptoSaid : Prop := orderListedUptoRow.holds Try.pinned (OpenSpec.upto orderListedSpec)

/-- 'narcissuslaw10.OrderCounts', WHERE WHAT IT READS IS OF BULK AT MOST 1048576: true; the input reads as it did. -/
def orderCountsUptoRow : OpenClaim := { program := "ytdjbcmfjlfkcjaa", sum := "7d7a5b3a596ebacd1dbe03938c233c1c18157c51ac49d248169a4e92a8b110cc", func := "narcissus/narcissuslaw10.OrderCounts", spec := "orderCounts", inPlace := ["internal/abi.NoEscape", "internal/bytealg.MakeNoZero"], unfollowed := true, recurses := true, apart := false, narrowed := true }
def OrderCountsUptoSaid : Prop := orderCountsUptoRow.holds Try.pinned (OpenSpec.upto orderCountsSpec)

/-- 'narcissuslaw10.OrderSums', WHERE WHAT IT READS IS OF BULK AT MOST 1048576: true; the input reads as it did. -/
def orderSumsUptoRow : OpenClaim := { program := "ytdjbcmfjlfkcjaa", sum := "7d7a5b3a596ebacd1dbe03938c233c1c18157c51ac49d248169a4e92a8b110cc", func := "narcissus/narcissuslaw10.OrderSums", spec := "orderSums", inPlace := ["internal/abi.NoEscape", "internal/bytealg.MakeNoZero"], unfollowed := true, recurses := true, apart := false, narrowed := true }
def OrderSumsUptoSaid : Prop := orderSumsUptoRow.holds Try.pinned (OpenSpec.upto orderSumsSpec)

/-- 'narcissuslaw10.OrderNumbers', WHERE WHAT IT READS IS OF BULK AT MOST 1048576: true; the input reads as it did. -/
def orderNumbersUptoRow : OpenClaim := { program := "ytdjbcmfjlfkcjaa", sum := "7d7a5b3a596ebacd1dbe03938c233c1c18157c51ac49d248169a4e92a8b110cc", func := "narcissus/narcissuslaw10.OrderNumbers", spec := "orderNumbers", inPlace := ["internal/abi.NoEscape", "internal/bytealg.MakeNoZero"], unfollowed := true, recurses := true, apart := false, narrowed := true }
def OrderNumbersUptoSaid : Prop := orderNumbersUptoRow.holds Try.pinned (OpenSpec.upto orderNumbersSpec)

/-- 'narcissuslaw10.OrderPads', WHERE WHAT IT READS IS OF BULK AT MOST 1048576: true; the input reads as it did. -/
def orderPadsUptoRow : OpenClaim := { program := "ytdjbcmfjlfkcjaa", sum := "7d7a5b3a596ebacd1dbe03938c233c1c18157c51ac49d248169a4e92a8b110cc", func := "narcissus/narcissuslaw10.OrderPads", spec := "orderPads", inPlace := ["internal/abi.NoEscape", "internal/bytealg.MakeNoZero"], unfollowed := true, recurses := true, apart := false, narrowed := true }
def OrderPadsUptoSaid : Prop := orderPadsUptoRow.holds Try.pinned (OpenSpec.upto orderPadsSpec)

/-- 'narcissuslaw10.OrderPadded', WHERE WHAT IT READS IS OF BULK AT MOST 1048576: true; the input reads as it did. -/
def orderPaddedUptoRow : OpenClaim := { program := "ytdjbcmfjlfkcjaa", sum := "7d7a5b3a596ebacd1dbe03938c233c1c18157c51ac49d248169a4e92a8b110cc", func := "narcissus/narcissuslaw10.OrderPadded", spec := "orderPadded", inPlace := ["internal/abi.NoEscape", "internal/bytealg.MakeNoZero"], unfollowed := true, recurses := true, apart := false, narrowed := true }
def OrderPaddedUptoSaid : Prop := orderPaddedUptoRow.holds Try.pinned (OpenSpec.upto orderPaddedSpec)

/-- 'narcissustop.TopMany', WHERE WHAT IT READS IS OF BULK AT MOST 1048576: true; the input reads as it did. -/
def topManyUptoRow : OpenClaim := { program := "ytdjbcmfjlfkcjaa", sum := "7d7a5b3a596ebacd1dbe03938c233c1c18157c51ac49d248169a4e92a8b110cc", func := "narcissus/narcissustop.TopMany", spec := "topMany", inPlace := ["internal/abi.NoEscape", "internal/bytealg.MakeNoZero"], apart := false, narrowed := true }
def TopManyUptoSaid : Prop := topManyUptoRow.holds Try.pinned (OpenSpec.upto topManySpec)

/-- 'narcissustop.TopKnow', WHERE WHAT IT READS IS OF BULK AT MOST 1048576: true; the input reads as it did. -/
def topKnowUptoRow : OpenClaim := { program := "ytdjbcmfjlfkcjaa", sum := "7d7a5b3a596ebacd1dbe03938c233c1c18157c51ac49d248169a4e92a8b110cc", func := "narcissus/narcissustop.TopKnow", spec := "topKnow", inPlace := ["internal/abi.NoEscape", "internal/bytealg.MakeNoZero"], unfollowed := true, recurses := true, apart := false, narrowed := true }
def TopKnowUptoSaid : Prop := topKnowUptoRow.holds Try.pinned (OpenSpec.upto topKnowSpec)

/-- 'narcissustop.TopLiar', WHERE WHAT IT READS IS OF BULK AT MOST 1048576: true; the input reads as it did. -/
def topLiarUptoRow : OpenClaim := { program := "ytdjbcmfjlfkcjaa", sum := "7d7a5b3a596ebacd1dbe03938c233c1c18157c51ac49d248169a4e92a8b110cc", func := "narcissus/narcissustop.TopLiar", spec := "topLiar", inPlace := ["internal/abi.NoEscape", "internal/bytealg.MakeNoZero"], unfollowed := true, recurses := true, apart := false, narrowed := true }
def TopLiarUptoSaid : Prop := topLiarUptoRow.holds Try.pinned (OpenSpec.upto topLiarSpec)

/-- 'narcissustop.TopDefeat', WHERE WHAT IT READS IS OF BULK AT MOST 1048576: true; the input reads as it did. -/
def topDefeatUptoRow : OpenClaim := { program := "ytdjbcmfjlfkcjaa", sum := "7d7a5b3a596ebacd1dbe03938c233c1c18157c51ac49d248169a4e92a8b110cc", func := "narcissus/narcissustop.TopDefeat", spec := "topDefeat", inPlace := ["internal/abi.NoEscape", "internal/bytealg.MakeNoZero"], unfollowed := true, recurses := true, apart := false, narrowed := true }
def TopDefeatUptoSaid : Prop := topDefeatUptoRow.holds Try.pinned (OpenSpec.upto topDefeatSpec)

end Rows
end Go.Proofs.Ytdjbcmfjlfkcjaa

/-
  No cell of these rows narrows 'for every input' (looked for: loops, veiled, ifaces, maps, wideKeys, modest, calm, conditions, laid).
  DERIVED. THE GIVEN ROWS OF THIS SEAT. 17 by the template 'for every input the law returns true; each argument reads behind the call as it read before'; 0 by the template 'total and deterministic' (their statements: YtieocihlkpipmaaTotals.lean).
  GIVEN WITH THE SEED: the statements are not yours to turn. If you find one false, say at which input.
  Laid BY PROGRAM, IN A SANDBOX (cutbox-rows.mjs): the forced cells as the released guide's own fill.sh prints them over the translation b387cb7d23601620… (all of the seat's roots in one cut). By AI agents, Wed Nov 11 2026. No macro, syntax, notation, axiom, sorry.
-/
import Derived.Test.YtieocihlkpipmaaChecked
import GoSem.Claim
import GoSem.ClaimJoined
import GoSem.ClaimMapViews
import Derived.JoinedTies
import Derived.KernelRfl
namespace Go.Proofs.Ytieocihlkpipmaa
/- THE CELL 'sum', in the pinned program and in every row, IS THE sha256 OF THE DUMP (.gsa) THAT YtieocihlkpipmaaProg.lean LOADS. Nothing in Lean hashes anything: it is a label: what it is worth is what the hold of that sum in a sandbox is worth. -/
noncomputable def Try.pinned : Pinned := { name := "ytieocihlkpipmaa", sum := "b387cb7d2360162099358207204e7acd08c13c3f0ecf42e944ea8e2c34fda24d", checked := Try.checked }
namespace Rows
def none {H : Type} : Left H := { results := [], args := [] }

/-- 'narcissuslaw03.RunRuns': WHATEVER THE INPUT: true; the input reads as it did. -/
def runRunsSpec : ChangeSpec := { name := "runRuns", fn := fun _ => fun
  | [d1, d2, d3] => { results := [.lit (.bool true)], args := [d1, d2, d3] }
  | _ => none }
def runRunsRow : OpenClaim := { program := "ytieocihlkpipmaa", sum := "b387cb7d2360162099358207204e7acd08c13c3f0ecf42e944ea8e2c34fda24d", func := "narcissus/narcissuslaw03.RunRuns", spec := "runRuns", unfollowed := true, recurses := true, apart := false }
def RunRunsSaid : Prop := runRunsRow.holds Try.pinned (OpenSpec.ofChange runRunsSpec)

/-- ITS FALSE NEIGHBOUR: 'it returns false'. Refute it at one input. -/
def runRunsWrong : ChangeSpec := { name := "runRuns", fn := fun _ => fun
  | [d1, d2, d3] => { results := [.lit (.bool false)], args := [d1, d2, d3] }
  | _ => none }
def RunRunsWrongFalsely : Prop := runRunsRow.holds Try.pinned (OpenSpec.ofChange runRunsWrong)

/-- 'narcissuslaw03.RunMore': WHATEVER THE INPUT: true; the input reads as it did. -/
def runMoreSpec : ChangeSpec := { name := "runMore", fn := fun _ => fun
  | [d1, d2, d3, d4] => { results := [.lit (.bool true)], args := [d1, d2, d3, d4] }
  | _ => none }
def runMoreRow : OpenClaim := { program := "ytieocihlkpipmaa", sum := "b387cb7d2360162099358207204e7acd08c13c3f0ecf42e944ea8e2c34fda24d", func := "narcissus/narcissuslaw03.RunMore", spec := "runMore", unfollowed := true, recurses := true, apart := false }
def RunMoreSaid : Prop := runMoreRow.holds Try.pinned (OpenSpec.ofChange runMoreSpec)

/-- ITS FALSE NEIGHBOUR: 'it returns false'. Refute it at one input. -/
def runMoreWrong : ChangeSpec := { name := "runMore", fn := fun _ => fun
  | [d1, d2, d3, d4] => { results := [.lit (.bool false)], args := [d1, d2, d3, d4] }
  | _ => none }
def RunMoreWrongFalsely : Prop := runMoreRow.holds Try.pinned (OpenSpec.ofChange runMoreWrong)

/-- 'narcissuslaw05.SpecMakes': WHATEVER THE INPUT: true; the input reads as it did. -/
def specMakesSpec : ChangeSpec := { name := "specMakes", fn := fun _ => fun
  | [d1, d2] => { results := [.lit (.bool true)], args := [d1, d2] }
  | _ => none }
def specMakesRow : OpenClaim := { program := "ytieocihlkpipmaa", sum := "b387cb7d2360162099358207204e7acd08c13c3f0ecf42e944ea8e2c34fda24d", func := "narcissus/narcissuslaw05.SpecMakes", spec := "specMakes", unfollowed := true, recurses := true, apart := false }
def SpecMakesSaid : Prop := specMakesRow.holds Try.pinned (OpenSpec.ofChange specMakesSpec)

/-- ITS FALSE NEIGHBOUR: 'it returns false'. Refute it at one input. -/
def specMakesWrong : ChangeSpec := { name := "specMakes", fn := fun _ => fun
  | [d1, d2] => { results := [.lit (.bool false)], args := [d1, d2] }
  | _ => none }
def SpecMakesWrongFalsely : Prop := specMakesRow.holds Try.pinned (OpenSpec.ofChange specMakesWrong)

/-- 'narcissuslaw05.SpecSupplies': WHATEVER THE INPUT: true; the input reads as it did. -/
def specSuppliesSpec : ChangeSpec := { name := "specSupplies", fn := fun _ => fun
  | [d1, d2, d3, d4] => { results := [.lit (.bool true)], args := [d1, d2, d3, d4] }
  | _ => none }
def specSuppliesRow : OpenClaim := { program := "ytieocihlkpipmaa", sum := "b387cb7d2360162099358207204e7acd08c13c3f0ecf42e944ea8e2c34fda24d", func := "narcissus/narcissuslaw05.SpecSupplies", spec := "specSupplies", unfollowed := true, recurses := true, apart := false }
def SpecSuppliesSaid : Prop := specSuppliesRow.holds Try.pinned (OpenSpec.ofChange specSuppliesSpec)

/-- ITS FALSE NEIGHBOUR: 'it returns false'. Refute it at one input. -/
def specSuppliesWrong : ChangeSpec := { name := "specSupplies", fn := fun _ => fun
  | [d1, d2, d3, d4] => { results := [.lit (.bool false)], args := [d1, d2, d3, d4] }
  | _ => none }
def SpecSuppliesWrongFalsely : Prop := specSuppliesRow.holds Try.pinned (OpenSpec.ofChange specSuppliesWrong)

/-- 'narcissuslaw01.TreeLists': WHATEVER THE INPUT: true; the input reads as it did. -/
def treeListsSpec : ChangeSpec := { name := "treeLists", fn := fun _ => fun
  | [d] => { results := [.lit (.bool true)], args := [d] }
  | _ => none }
def treeListsRow : OpenClaim := { program := "ytieocihlkpipmaa", sum := "b387cb7d2360162099358207204e7acd08c13c3f0ecf42e944ea8e2c34fda24d", func := "narcissus/narcissuslaw01.TreeLists", spec := "treeLists", inPlace := ["internal/abi.NoEscape", "internal/bytealg.MakeNoZero"], apart := false }
def TreeListsSaid : Prop := treeListsRow.holds Try.pinned (OpenSpec.ofChange treeListsSpec)

/-- ITS FALSE NEIGHBOUR: 'it returns false'. Refute it at one input. -/
def treeListsWrong : ChangeSpec := { name := "treeLists", fn := fun _ => fun
  | [d] => { results := [.lit (.bool false)], args := [d] }
  | _ => none }
def TreeListsWrongFalsely : Prop := treeListsRow.holds Try.pinned (OpenSpec.ofChange treeListsWrong)

/-- 'narcissuslaw03.RunAfters': WHATEVER THE INPUT: true; the input reads as it did. -/
def runAftersSpec : ChangeSpec := { name := "runAfters", fn := fun _ => fun
  | [d1, d2, d3] => { results := [.lit (.bool true)], args := [d1, d2, d3] }
  | _ => none }
def runAftersRow : OpenClaim := { program := "ytieocihlkpipmaa", sum := "b387cb7d2360162099358207204e7acd08c13c3f0ecf42e944ea8e2c34fda24d", func := "narcissus/narcissuslaw03.RunAfters", spec := "runAfters", unfollowed := true, recurses := true, apart := false }
def RunAftersSaid : Prop := runAftersRow.holds Try.pinned (OpenSpec.ofChange runAftersSpec)

/-- ITS FALSE NEIGHBOUR: 'it returns false'. Refute it at one input. -/
def runAftersWrong : ChangeSpec := { name := "runAfters", fn := fun _ => fun
  | [d1, d2, d3] => { results := [.lit (.bool false)], args := [d1, d2, d3] }
  | _ => none }
def RunAftersWrongFalsely : Prop := runAftersRow.holds Try.pinned (OpenSpec.ofChange runAftersWrong)

/-- 'narcissuslaw03.RunShared': WHATEVER THE INPUT: true; the input reads as it did. -/
def runSharedSpec : ChangeSpec := { name := "runShared", fn := fun _ => fun
  | [d1, d2] => { results := [.lit (.bool true)], args := [d1, d2] }
  | _ => none }
def runSharedRow : OpenClaim := { program := "ytieocihlkpipmaa", sum := "b387cb7d2360162099358207204e7acd08c13c3f0ecf42e944ea8e2c34fda24d", func := "narcissus/narcissuslaw03.RunShared", spec := "runShared", unfollowed := true, recurses := true, apart := false }
def RunSharedSaid : Prop := runSharedRow.holds Try.pinned (OpenSpec.ofChange runSharedSpec)

/-- ITS FALSE NEIGHBOUR: 'it returns false'. Refute it at one input. -/
def runSharedWrong : ChangeSpec := { name := "runShared", fn := fun _ => fun
  | [d1, d2] => { results := [.lit (.bool false)], args := [d1, d2] }
  | _ => none }
def RunSharedWrongFalsely : Prop := runSharedRow.holds Try.pinned (OpenSpec.ofChange runSharedWrong)

/-- 'narcissuslaw01.TreeOneWay': WHATEVER THE INPUT: true; the input reads as it did. -/
def treeOneWaySpec : ChangeSpec := { name := "treeOneWay", fn := fun _ => fun
  | [d1, d2, d3] => { results := [.lit (.bool true)], args := [d1, d2, d3] }
  | _ => none }
def treeOneWayRow : OpenClaim := { program := "ytieocihlkpipmaa", sum := "b387cb7d2360162099358207204e7acd08c13c3f0ecf42e944ea8e2c34fda24d", func := "narcissus/narcissuslaw01.TreeOneWay", spec := "treeOneWay", inPlace := ["internal/abi.NoEscape", "internal/bytealg.MakeNoZero"], apart := false }
def TreeOneWaySaid : Prop := treeOneWayRow.holds Try.pinned (OpenSpec.ofChange treeOneWaySpec)

/-- ITS FALSE NEIGHBOUR: 'it returns false'. Refute it at one input. -/
def treeOneWayWrong : ChangeSpec := { name := "treeOneWay", fn := fun _ => fun
  | [d1, d2, d3] => { results := [.lit (.bool false)], args := [d1, d2, d3] }
  | _ => none }
def TreeOneWayWrongFalsely : Prop := treeOneWayRow.holds Try.pinned (OpenSpec.ofChange treeOneWayWrong)

/-- 'narcissuslaw03.RunTouches': WHATEVER THE INPUT: true; the input reads as it did. -/
def runTouchesSpec : ChangeSpec := { name := "runTouches", fn := fun _ => fun
  | [d1, d2] => { results := [.lit (.bool true)], args := [d1, d2] }
  | _ => none }
def runTouchesRow : OpenClaim := { program := "ytieocihlkpipmaa", sum := "b387cb7d2360162099358207204e7acd08c13c3f0ecf42e944ea8e2c34fda24d", func := "narcissus/narcissuslaw03.RunTouches", spec := "runTouches", unfollowed := true, recurses := true, apart := false }
def RunTouchesSaid : Prop := runTouchesRow.holds Try.pinned (OpenSpec.ofChange runTouchesSpec)

/-- ITS FALSE NEIGHBOUR: 'it returns false'. Refute it at one input. -/
def runTouchesWrong : ChangeSpec := { name := "runTouches", fn := fun _ => fun
  | [d1, d2] => { results := [.lit (.bool false)], args := [d1, d2] }
  | _ => none }
def RunTouchesWrongFalsely : Prop := runTouchesRow.holds Try.pinned (OpenSpec.ofChange runTouchesWrong)

/-- 'narcissuslaw01.TreeConses': WHATEVER THE INPUT: true; the input reads as it did. -/
def treeConsesSpec : ChangeSpec := { name := "treeConses", fn := fun _ => fun
  | [d1, d2] => { results := [.lit (.bool true)], args := [d1, d2] }
  | _ => none }
def treeConsesRow : OpenClaim := { program := "ytieocihlkpipmaa", sum := "b387cb7d2360162099358207204e7acd08c13c3f0ecf42e944ea8e2c34fda24d", func := "narcissus/narcissuslaw01.TreeConses", spec := "treeConses", inPlace := ["internal/abi.NoEscape", "internal/bytealg.MakeNoZero"], apart := false }
def TreeConsesSaid : Prop := treeConsesRow.holds Try.pinned (OpenSpec.ofChange treeConsesSpec)

/-- ITS FALSE NEIGHBOUR: 'it returns false'. Refute it at one input. -/
def treeConsesWrong : ChangeSpec := { name := "treeConses", fn := fun _ => fun
  | [d1, d2] => { results := [.lit (.bool false)], args := [d1, d2] }
  | _ => none }
def TreeConsesWrongFalsely : Prop := treeConsesRow.holds Try.pinned (OpenSpec.ofChange treeConsesWrong)

/-- 'narcissuslaw01.TreeParts': WHATEVER THE INPUT: true; the input reads as it did. -/
def treePartsSpec : ChangeSpec := { name := "treeParts", fn := fun _ => fun
  | [d1, d2] => { results := [.lit (.bool true)], args := [d1, d2] }
  | _ => none }
def treePartsRow : OpenClaim := { program := "ytieocihlkpipmaa", sum := "b387cb7d2360162099358207204e7acd08c13c3f0ecf42e944ea8e2c34fda24d", func := "narcissus/narcissuslaw01.TreeParts", spec := "treeParts", inPlace := ["internal/abi.NoEscape", "internal/bytealg.MakeNoZero"], apart := false }
def TreePartsSaid : Prop := treePartsRow.holds Try.pinned (OpenSpec.ofChange treePartsSpec)

/-- ITS FALSE NEIGHBOUR: 'it returns false'. Refute it at one input. -/
def treePartsWrong : ChangeSpec := { name := "treeParts", fn := fun _ => fun
  | [d1, d2] => { results := [.lit (.bool false)], args := [d1, d2] }
  | _ => none }
def TreePartsWrongFalsely : Prop := treePartsRow.holds Try.pinned (OpenSpec.ofChange treePartsWrong)

/-- 'narcissuslaw01.TreeNumbers': WHATEVER THE INPUT: true; the input reads as it did. -/
def treeNumbersSpec : ChangeSpec := { name := "treeNumbers", fn := fun _ => fun
  | [d] => { results := [.lit (.bool true)], args := [d] }
  | _ => none }
def treeNumbersRow : OpenClaim := { program := "ytieocihlkpipmaa", sum := "b387cb7d2360162099358207204e7acd08c13c3f0ecf42e944ea8e2c34fda24d", func := "narcissus/narcissuslaw01.TreeNumbers", spec := "treeNumbers", inPlace := ["internal/abi.NoEscape", "internal/bytealg.MakeNoZero"], apart := false }
def TreeNumbersSaid : Prop := treeNumbersRow.holds Try.pinned (OpenSpec.ofChange treeNumbersSpec)

/-- ITS FALSE NEIGHBOUR: 'it returns false'. Refute it at one input. -/
def treeNumbersWrong : ChangeSpec := { name := "treeNumbers", fn := fun _ => fun
  | [d] => { results := [.lit (.bool false)], args := [d] }
  | _ => none }
def TreeNumbersWrongFalsely : Prop := treeNumbersRow.holds Try.pinned (OpenSpec.ofChange treeNumbersWrong)

/-- 'narcissuslaw03.RunSteps': WHATEVER THE INPUT: true; the input reads as it did. -/
def runStepsSpec : ChangeSpec := { name := "runSteps", fn := fun _ => fun
  | [d1, d2, d3] => { results := [.lit (.bool true)], args := [d1, d2, d3] }
  | _ => none }
def runStepsRow : OpenClaim := { program := "ytieocihlkpipmaa", sum := "b387cb7d2360162099358207204e7acd08c13c3f0ecf42e944ea8e2c34fda24d", func := "narcissus/narcissuslaw03.RunSteps", spec := "runSteps", unfollowed := true, recurses := true, apart := false }
def RunStepsSaid : Prop := runStepsRow.holds Try.pinned (OpenSpec.ofChange runStepsSpec)

/-- ITS FALSE NEIGHBOUR: 'it returns false'. Refute it at one input. -/
def runStepsWrong : ChangeSpec := { name := "runSteps", fn := fun _ => fun
  | [d1, d2, d3] => { results := [.lit (.bool false)], args := [d1, d2, d3] }
  | _ => none }
def RunStepsWrongFalsely : Prop := runStepsRow.holds Try.pinned (OpenSpec.ofChange runStepsWrong)

/-- 'narcissuslaw01.TreeItems': WHATEVER THE INPUT: true; the input reads as it did. -/
def treeItemsSpec : ChangeSpec := { name := "treeItems", fn := fun _ => fun
  | [d1, d2] => { results := [.lit (.bool true)], args := [d1, d2] }
  | _ => none }
def treeItemsRow : OpenClaim := { program := "ytieocihlkpipmaa", sum := "b387cb7d2360162099358207204e7acd08c13c3f0ecf42e944ea8e2c34fda24d", func := "narcissus/narcissuslaw01.TreeItems", spec := "treeItems", inPlace := ["internal/abi.NoEscape", "internal/bytealg.MakeNoZero"], unfollowed := true, recurses := true, apart := false }
def TreeItemsSaid : Prop := treeItemsRow.holds Try.pinned (OpenSpec.ofChange treeItemsSpec)

/-- ITS FALSE NEIGHBOUR: 'it returns false'. Refute it at one input. -/
def treeItemsWrong : ChangeSpec := { name := "treeItems", fn := fun _ => fun
  | [d1, d2] => { results := [.lit (.bool false)], args := [d1, d2] }
  | _ => none }
def TreeItemsWrongFalsely : Prop := treeItemsRow.holds Try.pinned (OpenSpec.ofChange treeItemsWrong)

/-- 'narcissuslaw03.RunParts': WHATEVER THE INPUT: true; the input reads as it did. -/
def runPartsSpec : ChangeSpec := { name := "runParts", fn := fun _ => fun
  | [d1, d2, d3] => { results := [.lit (.bool true)], args := [d1, d2, d3] }
  | _ => none }
def runPartsRow : OpenClaim := { program := "ytieocihlkpipmaa", sum := "b387cb7d2360162099358207204e7acd08c13c3f0ecf42e944ea8e2c34fda24d", func := "narcissus/narcissuslaw03.RunParts", spec := "runParts", unfollowed := true, recurses := true, apart := false }
def RunPartsSaid : Prop := runPartsRow.holds Try.pinned (OpenSpec.ofChange runPartsSpec)

/-- ITS FALSE NEIGHBOUR: 'it returns false'. Refute it at one input. -/
def runPartsWrong : ChangeSpec := { name := "runParts", fn := fun _ => fun
  | [d1, d2, d3] => { results := [.lit (.bool false)], args := [d1, d2, d3] }
  | _ => none }
def RunPartsWrongFalsely : Prop := runPartsRow.holds Try.pinned (OpenSpec.ofChange runPartsWrong)

/-- 'narcissuslaw01.TreeDepths': WHATEVER THE INPUT: true; the input reads as it did. -/
def treeDepthsSpec : ChangeSpec := { name := "treeDepths", fn := fun _ => fun
  | [d1, d2] => { results := [.lit (.bool true)], args := [d1, d2] }
  | _ => none }
def treeDepthsRow : OpenClaim := { program := "ytieocihlkpipmaa", sum := "b387cb7d2360162099358207204e7acd08c13c3f0ecf42e944ea8e2c34fda24d", func := "narcissus/narcissuslaw01.TreeDepths", spec := "treeDepths", inPlace := ["internal/abi.NoEscape", "internal/bytealg.MakeNoZero"], apart := false }
def TreeDepthsSaid : Prop := treeDepthsRow.holds Try.pinned (OpenSpec.ofChange treeDepthsSpec)

/-- ITS FALSE NEIGHBOUR: 'it returns false'. Refute it at one input. -/
def treeDepthsWrong : ChangeSpec := { name := "treeDepths", fn := fun _ => fun
  | [d1, d2] => { results := [.lit (.bool false)], args := [d1, d2] }
  | _ => none }
def TreeDepthsWrongFalsely : Prop := treeDepthsRow.holds Try.pinned (OpenSpec.ofChange treeDepthsWrong)

/-- 'narcissuslaw01.TreeReads': WHATEVER THE INPUT: true; the input reads as it did. -/
def treeReadsSpec : ChangeSpec := { name := "treeReads", fn := fun _ => fun
  | [d] => { results := [.lit (.bool true)], args := [d] }
  | _ => none }
def treeReadsRow : OpenClaim := { program := "ytieocihlkpipmaa", sum := "b387cb7d2360162099358207204e7acd08c13c3f0ecf42e944ea8e2c34fda24d", func := "narcissus/narcissuslaw01.TreeReads", spec := "treeReads", inPlace := ["internal/abi.NoEscape", "internal/bytealg.MakeNoZero"], unfollowed := true, recurses := true, apart := false }
def TreeReadsSaid : Prop := treeReadsRow.holds Try.pinned (OpenSpec.ofChange treeReadsSpec)

/-- ITS FALSE NEIGHBOUR: 'it returns false'. Refute it at one input. -/
def treeReadsWrong : ChangeSpec := { name := "treeReads", fn := fun _ => fun
  | [d] => { results := [.lit (.bool false)], args := [d] }
  | _ => none }
def TreeReadsWrongFalsely : Prop := treeReadsRow.holds Try.pinned (OpenSpec.ofChange treeReadsWrong)

/- THE SECOND FORM. 'bulk': how many values and letters a reading holds, each counted each time it is reached (what is shared counts as often as it is met; a slice's spare places count too). A statement '..UptoSaid' is the law's where the arguments, and the package variables that the reading takes, are together of bulk at most 1048576: NARROWER than '..Said'. Prove '..Said' where nothing that the law and all that it calls make is longer than what came in: it says more and counts as full. Else prove '..UptoSaid'. A law counts once. -/
mutual
def uptoBulk {H : Type} : DataW H → Nat
  | .lit (.string bytes) => bytes.length + 1
  | .lit _ => 1
  | .nil => 1
  | .ptr d => uptoBulk d + 1
  | .slice elems spare => uptoBulkAll elems + uptoBulkAll spare + 1
  | .agg parts => uptoBulkAll parts + 1
  | .iface _ d => uptoBulk d + 1
  | .map entries => uptoBulkEntries entries + 1
  | .held _ => 1
def uptoBulkAll {H : Type} : List (DataW H) → Nat
  | [] => 0
  | d :: r => uptoBulk d + uptoBulkAll r
def uptoBulkEntries {H : Type} : List (Lit × DataW H) → Nat
  | [] => 0
  | x :: r => uptoBulkEntry x + uptoBulkEntries r
def uptoBulkEntry {H : Type} : Lit × DataW H → Nat
  | (.string bytes, d) => bytes.length + uptoBulk d + 1
  | (_, d) => uptoBulk d + 1
 end
def uptoSmall : (H : Type) → List (DataW H) → Bool := fun _ ds => decide (uptoBulkAll ds ≤ 1048576)
def OpenSpec.upto (s : _root_.Go.ChangeSpec) : _root_.Go.OpenSpec := { _root_.Go.OpenSpec.ofChange s with cond := some uptoSmall }

/-- 'narcissuslaw03.RunRuns', WHERE WHAT IT READS IS OF BULK AT MOST 1048576: true; the input reads as it did. -/
def runRunsUptoRow : OpenClaim := { program := "ytieocihlkpipmaa", sum := "b387cb7d2360162099358207204e7acd08c13c3f0ecf42e944ea8e2c34fda24d", func := "narcissus/narcissuslaw03.RunRuns", spec := "runRuns", unfollowed := true, recurses := true, apart := false, narrowed := true }
def RunRunsUptoSaid : Prop := runRunsUptoRow.holds Try.pinned (OpenSpec.upto runRunsSpec)

/-- 'narcissuslaw03.RunMore', WHERE WHAT IT READS IS OF BULK AT MOST 1048576: true; the input reads as it did. -/
def runMoreUptoRow : OpenClaim := { program := "ytieocihlkpipmaa", sum := "b387cb7d2360162099358207204e7acd08c13c3f0ecf42e944ea8e2c34fda24d", func := "narcissus/narcissuslaw03.RunMore", spec := "runMore", unfollowed := true, recurses := true, apart := false, narrowed := true }
def RunMoreUptoSaid : Prop := runMoreUptoRow.holds Try.pinned (OpenSpec.upto runMoreSpec)

/-- 'narcissuslaw05.SpecMakes', WHERE WHAT IT READS IS OF BULK AT MOST 1048576: true; the input reads as it did. -/
def specMakesUptoRow : OpenClaim := { program := "ytieocihlkpipmaa", sum := "b387cb7d2360162099358207204e7acd08c13c3f0ecf42e944ea8e2c34fda24d", func := "narcissus/narcissuslaw05.SpecMakes", spec := "specMakes", unfollowed := true, recurses := true, apart := false, narrowed := true }
def SpecMakesUptoSaid : Prop := specMakesUptoRow.holds Try.pinned (OpenSpec.upto specMakesSpec)

/-- 'narcissuslaw05.SpecSupplies', WHERE WHAT IT READS IS OF BULK AT MOST 1048576: true; the input reads as it did. -/
def specSuppliesUptoRow : OpenClaim := { program := "ytieocihlkpipmaa", sum := "b387cb7d2360162099358207204e7acd08c13c3f0ecf42e944ea8e2c34fda24d", func := "narcissus/narcissuslaw05.SpecSupplies", spec := "specSupplies", unfollowed := true, recurses := true, apart := false, narrowed := true }
def SpecSuppliesUptoSaid : Prop := specSuppliesUptoRow.holds Try.pinned (OpenSpec.upto specSuppliesSpec)

/-- 'narcissuslaw01.TreeLists', WHERE WHAT IT READS IS OF BULK AT MOST 1048576: true; the input reads as it did. -/
def treeListsUptoRow : OpenClaim := { program := "ytieocihlkpipmaa", sum := "b387cb7d2360162099358207204e7acd08c13c3f0ecf42e944ea8e2c34fda24d", func := "narcissus/narcissuslaw01.TreeLists", spec := "treeLists", inPlace := ["internal/abi.NoEscape", "internal/bytealg.MakeNoZero"], apart := false, narrowed := true }
def TreeListsUptoSaid : Prop := treeListsUptoRow.holds Try.pinned (OpenSpec.upto treeListsSpec)

/-- 'narcissuslaw03.RunAfters', WHERE WHAT IT READS IS OF BULK AT MOST 1048576: true; the input reads as it did. -/
def runAftersUptoRow : OpenClaim := { program := "ytieocihlkpipmaa", sum := "b387cb7d2360162099358207204e7acd08c13c3f0ecf42e944ea8e2c34fda24d", func := "narcissus/narcissuslaw03.RunAfters", spec := "runAfters", unfollowed := true, recurses := true, apart := false, narrowed := true }
def RunAftersUptoSaid : Prop := runAftersUptoRow.holds Try.pinned (OpenSpec.upto runAftersSpec)

/-- 'narcissuslaw03.RunShared', WHERE WHAT IT READS IS OF BULK AT MOST 1048576: true; the input reads as it did. -/
def runSharedUptoRow : OpenClaim := { program := "ytieocihlkpipmaa", sum := "b387cb7d2360162099358207204e7acd08c13c3f0ecf42e944ea8e2c34fda24d", func := "narcissus/narcissuslaw03.RunShared", spec := "runShared", unfollowed := true, recurses := true, apart := false, narrowed := true }
def RunSharedUptoSaid : Prop := runSharedUptoRow.holds Try.pinned (OpenSpec.upto runSharedSpec)

/-- 'narcissuslaw01.TreeOneWay', WHERE WHAT IT READS IS OF BULK AT MOST 1048576: true; the input reads as it did. -/
def treeOneWayUptoRow : OpenClaim := { program := "ytieocihlkpipmaa", sum := "b387cb7d2360162099358207204e7acd08c13c3f0ecf42e944ea8e2c34fda24d", func := "narcissus/narcissuslaw01.TreeOneWay", spec := "treeOneWay", inPlace := ["internal/abi.NoEscape", "internal/bytealg.MakeNoZero"], apart := false, narrowed := true }
def TreeOneWayUptoSaid : Prop := treeOneWayUptoRow.holds Try.pinned (OpenSpec.upto treeOneWaySpec)

/-- 'narcissuslaw03.RunTouches', WHERE WHAT IT READS IS OF BULK AT MOST 1048576: true; the input reads as it did. -/
def runTouchesUptoRow : OpenClaim := { program := "ytieocihlkpipmaa", sum := "b387cb7d2360162099358207204e7acd08c13c3f0ecf42e944ea8e2c34fda24d", func := "narcissus/narcissuslaw03.RunTouches", spec := "runTouches", unfollowed := true, recurses := true, apart := false, narrowed := true }
def RunTouchesUptoSaid : Prop := runTouchesUptoRow.holds Try.pinned (OpenSpec.upto runTouchesSpec)

/-- 'narcissuslaw01.TreeConses', WHERE WHAT IT READS IS OF BULK AT MOST 1048576: true; the input reads as it did. -/
def treeConsesUptoRow : OpenClaim := { program := "ytieocihlkpipmaa", sum := "b387cb7d2360162099358207204e7acd08c13c3f0ecf42e944ea8e2c34fda24d", func := "narcissus/narcissuslaw01.TreeConses", spec := "treeConses", inPlace := ["internal/abi.NoEscape", "internal/bytealg.MakeNoZero"], apart := false, narrowed := true }
def TreeConsesUptoSaid : Prop := treeConsesUptoRow.holds Try.pinned (OpenSpec.upto treeConsesSpec)

/-- 'narcissuslaw01.TreeParts', WHERE WHAT IT READS IS OF BULK AT MOST 1048576: true; the input reads as it did. -/
def treePartsUptoRow : OpenClaim := { program := "ytieocihlkpipmaa", sum := "b387cb7d2360162099358207204e7acd08c13c3f0ecf42e944ea8e2c34fda24d", func := "narcissus/narcissuslaw01.TreeParts", spec := "treeParts", inPlace := ["internal/abi.NoEscape", "internal/bytealg.MakeNoZero"], apart := false, narrowed := true }
def TreePartsUptoSaid : Prop := treePartsUptoRow.holds Try.pinned (OpenSpec.upto treePartsSpec)

/-- 'narcissuslaw01.TreeNumbers', WHERE WHAT IT READS IS OF BULK AT MOST 1048576: true; the input reads as it did. -/
def treeNumbersUptoRow : OpenClaim := { program := "ytieocihlkpipmaa", sum := "b387cb7d2360162099358207204e7acd08c13c3f0ecf42e944ea8e2c34fda24d", func := "narcissus/narcissuslaw01.TreeNumbers", spec := "treeNumbers", inPlace := ["internal/abi.NoEscape", "internal/bytealg.MakeNoZero"], apart := false, narrowed := true }
def TreeNumbersUptoSaid : Prop := treeNumbersUptoRow.holds Try.pinned (OpenSpec.upto treeNumbersSpec)

/-- 'narcissuslaw03.RunSteps', WHERE WHAT IT READS IS OF BULK AT MOST 1048576: true; the input reads as it did. -/
def runStepsUptoRow : OpenClaim := { program := "ytieocihlkpipmaa", sum := "b387cb7d2360162099358207204e7acd08c13c3f0ecf42e944ea8e2c34fda24d", func := "narcissus/narcissuslaw03.RunSteps", spec := "runSteps", unfollowed := true, recurses := true, apart := false, narrowed := true }
def RunStepsUptoSaid : Prop := runStepsUptoRow.holds Try.pinned (OpenSpec.upto runStepsSpec)

/-- 'narcissuslaw01.TreeItems', WHERE WHAT IT READS IS OF BULK AT MOST 1048576: true; the input reads as it did. -/
def treeItemsUptoRow : OpenClaim := { program := "ytieocihlkpipmaa", sum := "b387cb7d2360162099358207204e7acd08c13c3f0ecf42e944ea8e2c34fda24d", func := "narcissus/narcissuslaw01.TreeItems", spec := "treeItems", inPlace := ["internal/abi.NoEscape", "internal/bytealg.MakeNoZero"], unfollowed := true, recurses := true, apart := false, narrowed := true }
def TreeItemsUptoSaid : Prop := treeItemsUptoRow.holds Try.pinned (OpenSpec.upto treeItemsSpec)

/-- 'narcissuslaw03.RunParts', WHERE WHAT IT READS IS OF BULK AT MOST 1048576: true; the input reads as it did. -/
def runPartsUptoRow : OpenClaim := { program := "ytieocihlkpipmaa", sum := "b387cb7d2360162099358207204e7acd08c13c3f0ecf42e944ea8e2c34fda24d", func := "narcissus/narcissuslaw03.RunParts", spec := "runParts", unfollowed := true, recurses := true, apart := false, narrowed := true }
def RunPartsUptoSaid : Prop := runPartsUptoRow.holds Try.pinned (OpenSpec.upto runPartsSpec)

/-- 'narcissuslaw01.TreeDepths', WHERE WHAT IT READS IS OF BULK AT MOST 1048576: true; the input reads as it did. -/
def treeDepthsUptoRow : OpenClaim := { program := "ytieocihlkpipmaa", sum := "b387cb7d2360162099358207204e7acd08c13c3f0ecf42e944ea8e2c34fda24d", func := "narcissus/narcissuslaw01.TreeDepths", spec := "treeDepths", inPlace := ["internal/abi.NoEscape", "internal/bytealg.MakeNoZero"], apart := false, narrowed := true }
def TreeDepthsUptoSaid : Prop := treeDepthsUptoRow.holds Try.pinned (OpenSpec.upto treeDepthsSpec)

/-- 'narcissuslaw01.TreeReads', WHERE WHAT IT READS IS OF BULK AT MOST 1048576: true; the input reads as it did. -/
def treeReadsUptoRow : OpenClaim := { program := "ytieocihlkpipmaa", sum := "b387cb7d2360162099358207204e7acd08c13c3f0ecf42e944ea8e2c34fda24d", func := "narcissus/narcissuslaw01.TreeReads", spec := "treeReads", inPlace := ["internal/abi.NoEscape", "internal/bytealg.MakeNoZero"], unfollowed := true, recurses := true, apart := false, narrowed := true }
def TreeReadsUptoSaid : Prop := treeReadsUptoRow.holds Try.pinned (OpenSpec.upto treeReadsSpec)

end Rows
end Go.Proofs.Ytieocihlkpipmaa

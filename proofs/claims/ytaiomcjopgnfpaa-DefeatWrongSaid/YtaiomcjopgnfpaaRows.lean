/-
  No cell of these rows narrows 'for every input' (looked for: loops, veiled, ifaces, maps, wideKeys, modest, calm, conditions, laid).
  DERIVED. THE GIVEN ROWS OF THIS SEAT. 16 by the template 'for every input the law returns true; each argument reads behind the call as it read before'; 0 by the template 'total and deterministic' (their statements: YtaiomcjopgnfpaaTotals.lean).
  GIVEN WITH THE SEED: the statements are not yours to turn. If you find one false, say at which input.
  Laid BY PROGRAM, IN A SANDBOX (cutbox-rows.mjs): the forced cells as the released guide's own fill.sh prints them over the translation 102c5cc602bb4c4a… (all of the seat's roots in one cut). By AI agents, Wed Nov 11 2026. No macro, syntax, notation, axiom, sorry.
-/
import Derived.Test.YtaiomcjopgnfpaaChecked
import GoSem.Claim
import GoSem.ClaimJoined
import GoSem.ClaimMapViews
import Derived.JoinedTies
import Derived.KernelRfl
namespace Go.Proofs.Ytaiomcjopgnfpaa
/- THE CELL 'sum', in the pinned program and in every row, IS THE sha256 OF THE DUMP (.gsa) THAT YtaiomcjopgnfpaaProg.lean LOADS. Nothing in Lean hashes anything: it is a label: what it is worth is what the hold of that sum in a sandbox is worth. -/
noncomputable def Try.pinned : Pinned := { name := "ytaiomcjopgnfpaa", sum := "102c5cc602bb4c4ae00c143f3fea433e5fb3baa0c32c67e77c2f75e186b7fb00", checked := Try.checked }
namespace Rows
def none {H : Type} : Left H := { results := [], args := [] }

/-- 'narcissuslaw04.BuildThens': WHATEVER THE INPUT: true; the input reads as it did. -/
def buildThensSpec : ChangeSpec := { name := "buildThens", fn := fun _ => fun
  | [d] => { results := [.lit (.bool true)], args := [d] }
  | _ => none }
def buildThensRow : OpenClaim := { program := "ytaiomcjopgnfpaa", sum := "102c5cc602bb4c4ae00c143f3fea433e5fb3baa0c32c67e77c2f75e186b7fb00", func := "narcissus/narcissuslaw04.BuildThens", spec := "buildThens", unfollowed := true, recurses := true, apart := false }
def BuildThensSaid : Prop := buildThensRow.holds Try.pinned (OpenSpec.ofChange buildThensSpec)

/-- ITS FALSE NEIGHBOUR: 'it returns false'. Refute it at one input. -/
def buildThensWrong : ChangeSpec := { name := "buildThens", fn := fun _ => fun
  | [d] => { results := [.lit (.bool false)], args := [d] }
  | _ => none }
def BuildThensWrongFalsely : Prop := buildThensRow.holds Try.pinned (OpenSpec.ofChange buildThensWrong)

/-- 'narcissuslaw04.BuildLoops': WHATEVER THE INPUT: true; the input reads as it did. -/
def buildLoopsSpec : ChangeSpec := { name := "buildLoops", fn := fun _ => fun
  | [d1, d2, d3] => { results := [.lit (.bool true)], args := [d1, d2, d3] }
  | _ => none }
def buildLoopsRow : OpenClaim := { program := "ytaiomcjopgnfpaa", sum := "102c5cc602bb4c4ae00c143f3fea433e5fb3baa0c32c67e77c2f75e186b7fb00", func := "narcissus/narcissuslaw04.BuildLoops", spec := "buildLoops", unfollowed := true, recurses := true, apart := false }
def BuildLoopsSaid : Prop := buildLoopsRow.holds Try.pinned (OpenSpec.ofChange buildLoopsSpec)

/-- ITS FALSE NEIGHBOUR: 'it returns false'. Refute it at one input. -/
def buildLoopsWrong : ChangeSpec := { name := "buildLoops", fn := fun _ => fun
  | [d1, d2, d3] => { results := [.lit (.bool false)], args := [d1, d2, d3] }
  | _ => none }
def BuildLoopsWrongFalsely : Prop := buildLoopsRow.holds Try.pinned (OpenSpec.ofChange buildLoopsWrong)

/-- 'narcissuslaw04.BuildLaws': WHATEVER THE INPUT: true; the input reads as it did. -/
def buildLawsSpec : ChangeSpec := { name := "buildLaws", fn := fun _ => fun
  | [d1, d2, d3, d4, d5] => { results := [.lit (.bool true)], args := [d1, d2, d3, d4, d5] }
  | _ => none }
def buildLawsRow : OpenClaim := { program := "ytaiomcjopgnfpaa", sum := "102c5cc602bb4c4ae00c143f3fea433e5fb3baa0c32c67e77c2f75e186b7fb00", func := "narcissus/narcissuslaw04.BuildLaws", spec := "buildLaws", unfollowed := true, recurses := true, apart := false }
def BuildLawsSaid : Prop := buildLawsRow.holds Try.pinned (OpenSpec.ofChange buildLawsSpec)

/-- ITS FALSE NEIGHBOUR: 'it returns false'. Refute it at one input. -/
def buildLawsWrong : ChangeSpec := { name := "buildLaws", fn := fun _ => fun
  | [d1, d2, d3, d4, d5] => { results := [.lit (.bool false)], args := [d1, d2, d3, d4, d5] }
  | _ => none }
def BuildLawsWrongFalsely : Prop := buildLawsRow.holds Try.pinned (OpenSpec.ofChange buildLawsWrong)

/-- 'narcissuslaw04.BuildRuns': WHATEVER THE INPUT: true; the input reads as it did. -/
def buildRunsSpec : ChangeSpec := { name := "buildRuns", fn := fun _ => fun
  | [d1, d2, d3, d4] => { results := [.lit (.bool true)], args := [d1, d2, d3, d4] }
  | _ => none }
def buildRunsRow : OpenClaim := { program := "ytaiomcjopgnfpaa", sum := "102c5cc602bb4c4ae00c143f3fea433e5fb3baa0c32c67e77c2f75e186b7fb00", func := "narcissus/narcissuslaw04.BuildRuns", spec := "buildRuns", unfollowed := true, recurses := true, apart := false }
def BuildRunsSaid : Prop := buildRunsRow.holds Try.pinned (OpenSpec.ofChange buildRunsSpec)

/-- ITS FALSE NEIGHBOUR: 'it returns false'. Refute it at one input. -/
def buildRunsWrong : ChangeSpec := { name := "buildRuns", fn := fun _ => fun
  | [d1, d2, d3, d4] => { results := [.lit (.bool false)], args := [d1, d2, d3, d4] }
  | _ => none }
def BuildRunsWrongFalsely : Prop := buildRunsRow.holds Try.pinned (OpenSpec.ofChange buildRunsWrong)

/-- 'narcissuslaw04.BuildMakes': WHATEVER THE INPUT: true; the input reads as it did. -/
def buildMakesSpec : ChangeSpec := { name := "buildMakes", fn := fun _ => fun
  | [d1, d2, d3, d4] => { results := [.lit (.bool true)], args := [d1, d2, d3, d4] }
  | _ => none }
def buildMakesRow : OpenClaim := { program := "ytaiomcjopgnfpaa", sum := "102c5cc602bb4c4ae00c143f3fea433e5fb3baa0c32c67e77c2f75e186b7fb00", func := "narcissus/narcissuslaw04.BuildMakes", spec := "buildMakes", unfollowed := true, recurses := true, apart := false }
def BuildMakesSaid : Prop := buildMakesRow.holds Try.pinned (OpenSpec.ofChange buildMakesSpec)

/-- ITS FALSE NEIGHBOUR: 'it returns false'. Refute it at one input. -/
def buildMakesWrong : ChangeSpec := { name := "buildMakes", fn := fun _ => fun
  | [d1, d2, d3, d4] => { results := [.lit (.bool false)], args := [d1, d2, d3, d4] }
  | _ => none }
def BuildMakesWrongFalsely : Prop := buildMakesRow.holds Try.pinned (OpenSpec.ofChange buildMakesWrong)

/-- 'narcissuslaw07.KnowMakes': WHATEVER THE INPUT: true; the input reads as it did. -/
def knowMakesSpec : ChangeSpec := { name := "knowMakes", fn := fun _ => fun
  | [d] => { results := [.lit (.bool true)], args := [d] }
  | _ => none }
def knowMakesRow : OpenClaim := { program := "ytaiomcjopgnfpaa", sum := "102c5cc602bb4c4ae00c143f3fea433e5fb3baa0c32c67e77c2f75e186b7fb00", func := "narcissus/narcissuslaw07.KnowMakes", spec := "knowMakes", inPlace := ["internal/abi.NoEscape", "internal/bytealg.MakeNoZero"], unfollowed := true, recurses := true, apart := false }
def KnowMakesSaid : Prop := knowMakesRow.holds Try.pinned (OpenSpec.ofChange knowMakesSpec)

/-- ITS FALSE NEIGHBOUR: 'it returns false'. Refute it at one input. -/
def knowMakesWrong : ChangeSpec := { name := "knowMakes", fn := fun _ => fun
  | [d] => { results := [.lit (.bool false)], args := [d] }
  | _ => none }
def KnowMakesWrongFalsely : Prop := knowMakesRow.holds Try.pinned (OpenSpec.ofChange knowMakesWrong)

/-- 'narcissuslaw07.KnowRuns': WHATEVER THE INPUT: true; the input reads as it did. -/
def knowRunsSpec : ChangeSpec := { name := "knowRuns", fn := fun _ => fun
  | [d1, d2] => { results := [.lit (.bool true)], args := [d1, d2] }
  | _ => none }
def knowRunsRow : OpenClaim := { program := "ytaiomcjopgnfpaa", sum := "102c5cc602bb4c4ae00c143f3fea433e5fb3baa0c32c67e77c2f75e186b7fb00", func := "narcissus/narcissuslaw07.KnowRuns", spec := "knowRuns", inPlace := ["internal/abi.NoEscape", "internal/bytealg.MakeNoZero"], unfollowed := true, recurses := true, apart := false }
def KnowRunsSaid : Prop := knowRunsRow.holds Try.pinned (OpenSpec.ofChange knowRunsSpec)

/-- ITS FALSE NEIGHBOUR: 'it returns false'. Refute it at one input. -/
def knowRunsWrong : ChangeSpec := { name := "knowRuns", fn := fun _ => fun
  | [d1, d2] => { results := [.lit (.bool false)], args := [d1, d2] }
  | _ => none }
def KnowRunsWrongFalsely : Prop := knowRunsRow.holds Try.pinned (OpenSpec.ofChange knowRunsWrong)

/-- 'narcissuslaw07.KnowDifferent': WHATEVER THE INPUT: true; the input reads as it did. -/
def knowDifferentSpec : ChangeSpec := { name := "knowDifferent", fn := fun _ => fun
  | [d1, d2] => { results := [.lit (.bool true)], args := [d1, d2] }
  | _ => none }
def knowDifferentRow : OpenClaim := { program := "ytaiomcjopgnfpaa", sum := "102c5cc602bb4c4ae00c143f3fea433e5fb3baa0c32c67e77c2f75e186b7fb00", func := "narcissus/narcissuslaw07.KnowDifferent", spec := "knowDifferent", inPlace := ["internal/abi.NoEscape", "internal/bytealg.MakeNoZero"], unfollowed := true, recurses := true, apart := false }
def KnowDifferentSaid : Prop := knowDifferentRow.holds Try.pinned (OpenSpec.ofChange knowDifferentSpec)

/-- ITS FALSE NEIGHBOUR: 'it returns false'. Refute it at one input. -/
def knowDifferentWrong : ChangeSpec := { name := "knowDifferent", fn := fun _ => fun
  | [d1, d2] => { results := [.lit (.bool false)], args := [d1, d2] }
  | _ => none }
def KnowDifferentWrongFalsely : Prop := knowDifferentRow.holds Try.pinned (OpenSpec.ofChange knowDifferentWrong)

/-- 'narcissuslaw07.KnowSelf': WHATEVER THE INPUT: true; the input reads as it did. -/
def knowSelfSpec : ChangeSpec := { name := "knowSelf", fn := fun _ => fun
  | [] => { results := [.lit (.bool true)], args := [] }
  | _ => none }
def knowSelfRow : OpenClaim := { program := "ytaiomcjopgnfpaa", sum := "102c5cc602bb4c4ae00c143f3fea433e5fb3baa0c32c67e77c2f75e186b7fb00", func := "narcissus/narcissuslaw07.KnowSelf", spec := "knowSelf", inPlace := ["internal/abi.NoEscape", "internal/bytealg.MakeNoZero"], unfollowed := true, recurses := true, apart := false }
def KnowSelfSaid : Prop := knowSelfRow.holds Try.pinned (OpenSpec.ofChange knowSelfSpec)

/-- ITS FALSE NEIGHBOUR: 'it returns false'. Refute it at one input. -/
def knowSelfWrong : ChangeSpec := { name := "knowSelf", fn := fun _ => fun
  | [] => { results := [.lit (.bool false)], args := [] }
  | _ => none }
def KnowSelfWrongFalsely : Prop := knowSelfRow.holds Try.pinned (OpenSpec.ofChange knowSelfWrong)

/-- 'narcissuslaw07.KnowItself': WHATEVER THE INPUT: true; the input reads as it did. -/
def knowItselfSpec : ChangeSpec := { name := "knowItself", fn := fun _ => fun
  | [d] => { results := [.lit (.bool true)], args := [d] }
  | _ => none }
def knowItselfRow : OpenClaim := { program := "ytaiomcjopgnfpaa", sum := "102c5cc602bb4c4ae00c143f3fea433e5fb3baa0c32c67e77c2f75e186b7fb00", func := "narcissus/narcissuslaw07.KnowItself", spec := "knowItself", inPlace := ["internal/abi.NoEscape", "internal/bytealg.MakeNoZero"], unfollowed := true, recurses := true, apart := false }
def KnowItselfSaid : Prop := knowItselfRow.holds Try.pinned (OpenSpec.ofChange knowItselfSpec)

/-- ITS FALSE NEIGHBOUR: 'it returns false'. Refute it at one input. -/
def knowItselfWrong : ChangeSpec := { name := "knowItself", fn := fun _ => fun
  | [d] => { results := [.lit (.bool false)], args := [d] }
  | _ => none }
def KnowItselfWrongFalsely : Prop := knowItselfRow.holds Try.pinned (OpenSpec.ofChange knowItselfWrong)

/-- 'narcissuslaw09.DefeatMakes': WHATEVER THE INPUT: true; the input reads as it did. -/
def defeatMakesSpec : ChangeSpec := { name := "defeatMakes", fn := fun _ => fun
  | [d1, d2, d3] => { results := [.lit (.bool true)], args := [d1, d2, d3] }
  | _ => none }
def defeatMakesRow : OpenClaim := { program := "ytaiomcjopgnfpaa", sum := "102c5cc602bb4c4ae00c143f3fea433e5fb3baa0c32c67e77c2f75e186b7fb00", func := "narcissus/narcissuslaw09.DefeatMakes", spec := "defeatMakes", inPlace := ["internal/abi.NoEscape", "internal/bytealg.MakeNoZero"], unfollowed := true, recurses := true, apart := false }
def DefeatMakesSaid : Prop := defeatMakesRow.holds Try.pinned (OpenSpec.ofChange defeatMakesSpec)

/-- ITS FALSE NEIGHBOUR: 'it returns false'. Refute it at one input. -/
def defeatMakesWrong : ChangeSpec := { name := "defeatMakes", fn := fun _ => fun
  | [d1, d2, d3] => { results := [.lit (.bool false)], args := [d1, d2, d3] }
  | _ => none }
def DefeatMakesWrongFalsely : Prop := defeatMakesRow.holds Try.pinned (OpenSpec.ofChange defeatMakesWrong)

/-- 'narcissuslaw09.DefeatLiars': WHATEVER THE INPUT: true; the input reads as it did. -/
def defeatLiarsSpec : ChangeSpec := { name := "defeatLiars", fn := fun _ => fun
  | [d] => { results := [.lit (.bool true)], args := [d] }
  | _ => none }
def defeatLiarsRow : OpenClaim := { program := "ytaiomcjopgnfpaa", sum := "102c5cc602bb4c4ae00c143f3fea433e5fb3baa0c32c67e77c2f75e186b7fb00", func := "narcissus/narcissuslaw09.DefeatLiars", spec := "defeatLiars", inPlace := ["internal/abi.NoEscape", "internal/bytealg.MakeNoZero"], unfollowed := true, recurses := true, apart := false }
def DefeatLiarsSaid : Prop := defeatLiarsRow.holds Try.pinned (OpenSpec.ofChange defeatLiarsSpec)

/-- ITS FALSE NEIGHBOUR: 'it returns false'. Refute it at one input. -/
def defeatLiarsWrong : ChangeSpec := { name := "defeatLiars", fn := fun _ => fun
  | [d] => { results := [.lit (.bool false)], args := [d] }
  | _ => none }
def DefeatLiarsWrongFalsely : Prop := defeatLiarsRow.holds Try.pinned (OpenSpec.ofChange defeatLiarsWrong)

/-- 'narcissuslaw09.DefeatRuns': WHATEVER THE INPUT: true; the input reads as it did. -/
def defeatRunsSpec : ChangeSpec := { name := "defeatRuns", fn := fun _ => fun
  | [d1, d2, d3, d4] => { results := [.lit (.bool true)], args := [d1, d2, d3, d4] }
  | _ => none }
def defeatRunsRow : OpenClaim := { program := "ytaiomcjopgnfpaa", sum := "102c5cc602bb4c4ae00c143f3fea433e5fb3baa0c32c67e77c2f75e186b7fb00", func := "narcissus/narcissuslaw09.DefeatRuns", spec := "defeatRuns", inPlace := ["internal/abi.NoEscape", "internal/bytealg.MakeNoZero"], unfollowed := true, recurses := true, apart := false }
def DefeatRunsSaid : Prop := defeatRunsRow.holds Try.pinned (OpenSpec.ofChange defeatRunsSpec)

/-- ITS FALSE NEIGHBOUR: 'it returns false'. Refute it at one input. -/
def defeatRunsWrong : ChangeSpec := { name := "defeatRuns", fn := fun _ => fun
  | [d1, d2, d3, d4] => { results := [.lit (.bool false)], args := [d1, d2, d3, d4] }
  | _ => none }
def DefeatRunsWrongFalsely : Prop := defeatRunsRow.holds Try.pinned (OpenSpec.ofChange defeatRunsWrong)

/-- 'narcissuslaw09.DefeatLies': WHATEVER THE INPUT: true; the input reads as it did. -/
def defeatLiesSpec : ChangeSpec := { name := "defeatLies", fn := fun _ => fun
  | [d1, d2] => { results := [.lit (.bool true)], args := [d1, d2] }
  | _ => none }
def defeatLiesRow : OpenClaim := { program := "ytaiomcjopgnfpaa", sum := "102c5cc602bb4c4ae00c143f3fea433e5fb3baa0c32c67e77c2f75e186b7fb00", func := "narcissus/narcissuslaw09.DefeatLies", spec := "defeatLies", inPlace := ["internal/abi.NoEscape", "internal/bytealg.MakeNoZero"], unfollowed := true, recurses := true, apart := false }
def DefeatLiesSaid : Prop := defeatLiesRow.holds Try.pinned (OpenSpec.ofChange defeatLiesSpec)

/-- ITS FALSE NEIGHBOUR: 'it returns false'. Refute it at one input. -/
def defeatLiesWrong : ChangeSpec := { name := "defeatLies", fn := fun _ => fun
  | [d1, d2] => { results := [.lit (.bool false)], args := [d1, d2] }
  | _ => none }
def DefeatLiesWrongFalsely : Prop := defeatLiesRow.holds Try.pinned (OpenSpec.ofChange defeatLiesWrong)

/-- 'narcissuslaw09.DefeatSays': WHATEVER THE INPUT: true; the input reads as it did. -/
def defeatSaysSpec : ChangeSpec := { name := "defeatSays", fn := fun _ => fun
  | [d1, d2, d3] => { results := [.lit (.bool true)], args := [d1, d2, d3] }
  | _ => none }
def defeatSaysRow : OpenClaim := { program := "ytaiomcjopgnfpaa", sum := "102c5cc602bb4c4ae00c143f3fea433e5fb3baa0c32c67e77c2f75e186b7fb00", func := "narcissus/narcissuslaw09.DefeatSays", spec := "defeatSays", inPlace := ["internal/abi.NoEscape", "internal/bytealg.MakeNoZero"], unfollowed := true, recurses := true, apart := false }
def DefeatSaysSaid : Prop := defeatSaysRow.holds Try.pinned (OpenSpec.ofChange defeatSaysSpec)

/-- ITS FALSE NEIGHBOUR: 'it returns false'. Refute it at one input. -/
def defeatSaysWrong : ChangeSpec := { name := "defeatSays", fn := fun _ => fun
  | [d1, d2, d3] => { results := [.lit (.bool false)], args := [d1, d2, d3] }
  | _ => none }
def DefeatSaysWrongFalsely : Prop := defeatSaysRow.holds Try.pinned (OpenSpec.ofChange defeatSaysWrong)

/-- 'narcissuslaw09.DefeatWrong': WHATEVER THE INPUT: true; the input reads as it did. -/
def defeatWrongSpec : ChangeSpec := { name := "defeatWrong", fn := fun _ => fun
  | [d1, d2, d3, d4, d5] => { results := [.lit (.bool true)], args := [d1, d2, d3, d4, d5] }
  | _ => none }
def defeatWrongRow : OpenClaim := { program := "ytaiomcjopgnfpaa", sum := "102c5cc602bb4c4ae00c143f3fea433e5fb3baa0c32c67e77c2f75e186b7fb00", func := "narcissus/narcissuslaw09.DefeatWrong", spec := "defeatWrong", inPlace := ["internal/abi.NoEscape", "internal/bytealg.MakeNoZero"], unfollowed := true, recurses := true, apart := false }
def DefeatWrongSaid : Prop := defeatWrongRow.holds Try.pinned (OpenSpec.ofChange defeatWrongSpec)

/-- ITS FALSE NEIGHBOUR: 'it returns false'. Refute it at one input. -/
def defeatWrongWrong : ChangeSpec := { name := "defeatWrong", fn := fun _ => fun
  | [d1, d2, d3, d4, d5] => { results := [.lit (.bool false)], args := [d1, d2, d3, d4, d5] }
  | _ => none }
def DefeatWrongWrongFalsely : Prop := defeatWrongRow.holds Try.pinned (OpenSpec.ofChange defeatWrongWrong)

/- THE SECOND FORM. 'bulk': how many values and letters a reading holds, each counted each time it is reached (what is shared counts as often as it is met; a slice's spare places count too). A statement '..UptoSaid' is the law's where the arguments, and the package variables that the reading takes, are together of bulk at most 1048576: NARROWER than '..Said'. Prove '..Said' where nothing that the law and all that it calls make is longer than what came in: it says more and counts as full. Else prove '..UptoSaid'. A law counts once. -/
mutual
def uptoBulk {H : Type} : DataW H → Nat
  | .lit (.string bytes) => bytes.length + 1
  | .lit _ => 1
  | .nil => 1
  | .ptr d => uptoBulk d + 1
  | .slice elems spare => uptoBulkAll elems + uptoBulkAll spare + 1
  | .agg parts => uptoBulkAll parts + 1
  | .iface _ d => uptoBulk d + 1
  | .map entries => uptoBulkEntries entries + 1
  | .held _ => 1
def uptoBulkAll {H : Type} : List (DataW H) → Nat
  | [] => 0
  | d :: r => uptoBulk d + uptoBulkAll r
def uptoBulkEntries {H : Type} : List (Lit × DataW H) → Nat
  | [] => 0
  | x :: r => uptoBulkEntry x + uptoBulkEntries r
def uptoBulkEntry {H : Type} : Lit × DataW H → Nat
  | (.string bytes, d) => bytes.length + uptoBulk d + 1
  | (_, d) => uptoBulk d + 1
 end
def uptoSmall : (H : Type) → List (DataW H) → Bool := fun _ ds => decide (uptoBulkAll ds ≤ 1048576)
def OpenSpec.upto (s : _root_.Go.ChangeSpec) : _root_.Go.OpenSpec := { _root_.Go.OpenSpec.ofChange s with cond := some uptoSmall }

/-- 'narcissuslaw04.BuildThens', WHERE WHAT IT READS IS OF BULK AT MOST 1048576: true; the input reads as it did. -/
def buildThensUptoRow : OpenClaim := { program := "ytaiomcjopgnfpaa", sum := "102c5cc602bb4c4ae00c143f3fea433e5fb3baa0c32c67e77c2f75e186b7fb00", func := "narcissus/narcissuslaw04.BuildThens", spec := "buildThens", unfollowed := true, recurses := true, apart := false, narrowed := true }
def BuildThensUptoSaid : Prop := buildThensUptoRow.holds Try.pinned (OpenSpec.upto buildThensSpec)

/-- 'narcissuslaw04.BuildLoops', WHERE WHAT IT READS IS OF BULK AT MOST 1048576: true; the input reads as it did. -/
def buildLoopsUptoRow : OpenClaim := { program := "ytaiomcjopgnfpaa", sum := "102c5cc602bb4c4ae00c143f3fea433e5fb3baa0c32c67e77c2f75e186b7fb00", func := "narcissus/narcissuslaw04.BuildLoops", spec := "buildLoops", unfollowed := true, recurses := true, apart := false, narrowed := true }
def BuildLoopsUptoSaid : Prop := buildLoopsUptoRow.holds Try.pinned (OpenSpec.upto buildLoopsSpec)

/-- 'narcissuslaw04.BuildLaws', WHERE WHAT IT READS IS OF BULK AT MOST 1048576: true; the input reads as it did. -/
def buildLawsUptoRow : OpenClaim := { program := "ytaiomcjopgnfpaa", sum := "102c5cc602bb4c4ae00c143f3fea433e5fb3baa0c32c67e77c2f75e186b7fb00", func := "narcissus/narcissuslaw04.BuildLaws", spec := "buildLaws", unfollowed := true, recurses := true, apart := false, narrowed := true }
def BuildLawsUptoSaid : Prop := buildLawsUptoRow.holds Try.pinned (OpenSpec.upto buildLawsSpec)

/-- 'narcissuslaw04.BuildRuns', WHERE WHAT IT READS IS OF BULK AT MOST 1048576: true; the input reads as it did. -/
def buildRunsUptoRow : OpenClaim := { program := "ytaiomcjopgnfpaa", sum := "102c5cc602bb4c4ae00c143f3fea433e5fb3baa0c32c67e77c2f75e186b7fb00", func := "narcissus/narcissuslaw04.BuildRuns", spec := "buildRuns", unfollowed := true, recurses := true, apart := false, narrowed := true }
def BuildRunsUptoSaid : Prop := buildRunsUptoRow.holds Try.pinned (OpenSpec.upto buildRunsSpec)

/-- 'narcissuslaw04.BuildMakes', WHERE WHAT IT READS IS OF BULK AT MOST 1048576: true; the input reads as it did. -/
def buildMakesUptoRow : OpenClaim := { program := "ytaiomcjopgnfpaa", sum := "102c5cc602bb4c4ae00c143f3fea433e5fb3baa0c32c67e77c2f75e186b7fb00", func := "narcissus/narcissuslaw04.BuildMakes", spec := "buildMakes", unfollowed := true, recurses := true, apart := false, narrowed := true }
def BuildMakesUptoSaid : Prop := buildMakesUptoRow.holds Try.pinned (OpenSpec.upto buildMakesSpec)

/-- 'narcissuslaw07.KnowMakes', WHERE WHAT IT READS IS OF BULK AT MOST 1048576: true; the input reads as it did. -/
def knowMakesUptoRow : OpenClaim := { program := "ytaiomcjopgnfpaa", sum := "102c5cc602bb4c4ae00c143f3fea433e5fb3baa0c32c67e77c2f75e186b7fb00", func := "narcissus/narcissuslaw07.KnowMakes", spec := "knowMakes", inPlace := ["internal/abi.NoEscape", "internal/bytealg.MakeNoZero"], unfollowed := true, recurses := true, apart := false, narrowed := true }
def KnowMakesUptoSaid : Prop := knowMakesUptoRow.holds Try.pinned (OpenSpec.upto knowMakesSpec)

/-- 'narcissuslaw07.KnowRuns', WHERE WHAT IT READS IS OF BULK AT MOST 1048576: true; the input reads as it did. -/
def knowRunsUptoRow : OpenClaim := { program := "ytaiomcjopgnfpaa", sum := "102c5cc602bb4c4ae00c143f3fea433e5fb3baa0c32c67e77c2f75e186b7fb00", func := "narcissus/narcissuslaw07.KnowRuns", spec := "knowRuns", inPlace := ["internal/abi.NoEscape", "internal/bytealg.MakeNoZero"], unfollowed := true, recurses := true, apart := false, narrowed := true }
def KnowRunsUptoSaid : Prop := knowRunsUptoRow.holds Try.pinned (OpenSpec.upto knowRunsSpec)

/-- 'narcissuslaw07.KnowDifferent', WHERE WHAT IT READS IS OF BULK AT MOST 1048576: true; the input reads as it did. -/
def knowDifferentUptoRow : OpenClaim := { program := "ytaiomcjopgnfpaa", sum := "102c5cc602bb4c4ae00c143f3fea433e5fb3baa0c32c67e77c2f75e186b7fb00", func := "narcissus/narcissuslaw07.KnowDifferent", spec := "knowDifferent", inPlace := ["internal/abi.NoEscape", "internal/bytealg.MakeNoZero"], unfollowed := true, recurses := true, apart := false, narrowed := true }
def KnowDifferentUptoSaid : Prop := knowDifferentUptoRow.holds Try.pinned (OpenSpec.upto knowDifferentSpec)

/-- 'narcissuslaw07.KnowSelf', WHERE WHAT IT READS IS OF BULK AT MOST 1048576: true; the input reads as it did. -/
def knowSelfUptoRow : OpenClaim := { program := "ytaiomcjopgnfpaa", sum := "102c5cc602bb4c4ae00c143f3fea433e5fb3baa0c32c67e77c2f75e186b7fb00", func := "narcissus/narcissuslaw07.KnowSelf", spec := "knowSelf", inPlace := ["internal/abi.NoEscape", "internal/bytealg.MakeNoZero"], unfollowed := true, recurses := true, apart := false, narrowed := true }
def KnowSelfUptoSaid : Prop := knowSelfUptoRow.holds Try.pinned (OpenSpec.upto knowSelfSpec)

/-- 'narcissuslaw07.KnowItself', WHERE WHAT IT READS IS OF BULK AT MOST 1048576: true; the input reads as it did. -/
def knowItselfUptoRow : OpenClaim := { program := "ytaiomcjopgnfpaa", sum := "102c5cc602bb4c4ae00c143f3fea433e5fb3baa0c32c67e77c2f75e186b7fb00", func := "narcissus/narcissuslaw07.KnowItself", spec := "knowItself", inPlace := ["internal/abi.NoEscape", "internal/bytealg.MakeNoZero"], unfollowed := true, recurses := true, apart := false, narrowed := true }
def KnowItselfUptoSaid : Prop := knowItselfUptoRow.holds Try.pinned (OpenSpec.upto knowItselfSpec)

/-- 'narcissuslaw09.DefeatMakes', WHERE WHAT IT READS IS OF BULK AT MOST 1048576: true; the input reads as it did. -/
def defeatMakesUptoRow : OpenClaim := { program := "ytaiomcjopgnfpaa", sum := "102c5cc602bb4c4ae00c143f3fea433e5fb3baa0c32c67e77c2f75e186b7fb00", func := "narcissus/narcissuslaw09.DefeatMakes", spec := "defeatMakes", inPlace := ["internal/abi.NoEscape", "internal/bytealg.MakeNoZero"], unfollowed := true, recurses := true, apart := false, narrowed := true }
def DefeatMakesUptoSaid : Prop := defeatMakesUptoRow.holds Try.pinned (OpenSpec.upto defeatMakesSpec)

/-- 'narcissuslaw09.DefeatLiars', WHERE WHAT IT READS IS OF BULK AT MOST 1048576: true; the input reads as it did. -/
def defeatLiarsUptoRow : OpenClaim := { program := "ytaiomcjopgnfpaa", sum := "102c5cc602bb4c4ae00c143f3fea433e5fb3baa0c32c67e77c2f75e186b7fb00", func := "narcissus/narcissuslaw09.DefeatLiars", spec := "defeatLiars", inPlace := ["internal/abi.NoEscape", "internal/bytealg.MakeNoZero"], unfollowed := true, recurses := true, apart := false, narrowed := true }
def DefeatLiarsUptoSaid : Prop := defeatLiarsUptoRow.holds Try.pinned (OpenSpec.upto defeatLiarsSpec)

/-- 'narcissuslaw09.DefeatRuns', WHERE WHAT IT READS IS OF BULK AT MOST 1048576: true; the input reads as it did. -/
def defeatRunsUptoRow : OpenClaim := { program := "ytaiomcjopgnfpaa", sum := "102c5cc602bb4c4ae00c143f3fea433e5fb3baa0c32c67e77c2f75e186b7fb00", func := "narcissus/narcissuslaw09.DefeatRuns", spec := "defeatRuns", inPlace := ["internal/abi.NoEscape", "internal/bytealg.MakeNoZero"], unfollowed := true, recurses := true, apart := false, narrowed := true }
def DefeatRunsUptoSaid : Prop := defeatRunsUptoRow.holds Try.pinned (OpenSpec.upto defeatRunsSpec)

/-- 'narcissuslaw09.DefeatLies', WHERE WHAT IT READS IS OF BULK AT MOST 1048576: true; the input reads as it did. -/
def defeatLiesUptoRow : OpenClaim := { program := "ytaiomcjopgnfpaa", sum := "102c5cc602bb4c4ae00c143f3fea433e5fb3baa0c32c67e77c2f75e186b7fb00", func := "narcissus/narcissuslaw09.DefeatLies", spec := "defeatLies", inPlace := ["internal/abi.NoEscape", "internal/bytealg.MakeNoZero"], unfollowed := true, recurses := true, apart := false, narrowed := true }
def DefeatLiesUptoSaid : Prop := defeatLiesUptoRow.holds Try.pinned (OpenSpec.upto defeatLiesSpec)

/-- 'narcissuslaw09.DefeatSays', WHERE WHAT IT READS IS OF BULK AT MOST 1048576: true; the input reads as it did. -/
def defeatSaysUptoRow : OpenClaim := { program := "ytaiomcjopgnfpaa", sum := "102c5cc602bb4c4ae00c143f3fea433e5fb3baa0c32c67e77c2f75e186b7fb00", func := "narcissus/narcissuslaw09.DefeatSays", spec := "defeatSays", inPlace := ["internal/abi.NoEscape", "internal/bytealg.MakeNoZero"], unfollowed := true, recurses := true, apart := false, narrowed := true }
def DefeatSaysUptoSaid : Prop := defeatSaysUptoRow.holds Try.pinned (OpenSpec.upto defeatSaysSpec)

/-- 'narcissuslaw09.DefeatWrong', WHERE WHAT IT READS IS OF BULK AT MOST 1048576: true; the input reads as it did. -/
def defeatWrongUptoRow : OpenClaim := { program := "ytaiomcjopgnfpaa", sum := "102c5cc602bb4c4ae00c143f3fea433e5fb3baa0c32c67e77c2f75e186b7fb00", func := "narcissus/narcissuslaw09.DefeatWrong", spec := "defeatWrong", inPlace := ["internal/abi.NoEscape", "internal/bytealg.MakeNoZero"], unfollowed := true, recurses := true, apart := false, narrowed := true }
def DefeatWrongUptoSaid : Prop := defeatWrongUptoRow.holds Try.pinned (OpenSpec.upto defeatWrongSpec)

end Rows
end Go.Proofs.Ytaiomcjopgnfpaa

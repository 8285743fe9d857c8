/-
  No cell of these rows narrows 'for every input' (looked for: loops, veiled, ifaces, maps, wideKeys, modest, calm, conditions, laid).
  DERIVED. THE GIVEN ROWS OF THIS SEAT. 12 by the template 'for every input the law returns true; each argument reads behind the call as it read before'; 0 by the template 'total and deterministic' (their statements: YtlaeljkjdfffjaaTotals.lean).
  GIVEN WITH THE SEED: the statements are not yours to turn. If you find one false, say at which input.
  Laid BY PROGRAM, IN A SANDBOX (cutbox-rows.mjs): the forced cells as the released guide's own fill.sh prints them over the translation 02f9b65bfc907361… (all of the seat's roots in one cut). By AI agents, Wed Nov 11 2026. No macro, syntax, notation, axiom, sorry.
-/
import Derived.Test.YtlaeljkjdfffjaaChecked
import GoSem.Claim
import GoSem.ClaimJoined
import GoSem.ClaimMapViews
import Derived.JoinedTies
import Derived.KernelRfl
namespace Go.Proofs.Ytlaeljkjdfffjaa
/- THE CELL 'sum', in the pinned program and in every row, IS THE sha256 OF THE DUMP (.gsa) THAT YtlaeljkjdfffjaaProg.lean LOADS. Nothing in Lean hashes anything: it is a label: what it is worth is what the hold of that sum in a sandbox is worth. -/
noncomputable def Try.pinned : Pinned := { name := "ytlaeljkjdfffjaa", sum := "02f9b65bfc9073617f15a20591c701c3fb87e21a71dae45e349202090450df81", checked := Try.checked }
namespace Rows
def none {H : Type} : Left H := { results := [], args := [] }

/-- 'narcissustop.TopItself': WHATEVER THE INPUT: true; the input reads as it did. -/
def topItselfSpec : ChangeSpec := { name := "topItself", fn := fun _ => fun
  | [d1, d2] => { results := [.lit (.bool true)], args := [d1, d2] }
  | _ => none }
def topItselfRow : OpenClaim := { program := "ytlaeljkjdfffjaa", sum := "02f9b65bfc9073617f15a20591c701c3fb87e21a71dae45e349202090450df81", func := "narcissus/narcissustop.TopItself", spec := "topItself", unfollowed := true, recurses := true, apart := false }
def TopItselfSaid : Prop := topItselfRow.holds Try.pinned (OpenSpec.ofChange topItselfSpec)

/-- ITS FALSE NEIGHBOUR: 'it returns false'. Refute it at one input. -/
def topItselfWrong : ChangeSpec := { name := "topItself", fn := fun _ => fun
  | [d1, d2] => { results := [.lit (.bool false)], args := [d1, d2] }
  | _ => none }
def TopItselfWrongFalsely : Prop := topItselfRow.holds Try.pinned (OpenSpec.ofChange topItselfWrong)

/-- 'narcissuslaw06.UnivForms': WHATEVER THE INPUT: true; the input reads as it did. -/
def univFormsSpec : ChangeSpec := { name := "univForms", fn := fun _ => fun
  | [d] => { results := [.lit (.bool true)], args := [d] }
  | _ => none }
def univFormsRow : OpenClaim := { program := "ytlaeljkjdfffjaa", sum := "02f9b65bfc9073617f15a20591c701c3fb87e21a71dae45e349202090450df81", func := "narcissus/narcissuslaw06.UnivForms", spec := "univForms", unfollowed := true, recurses := true, apart := false }
def UnivFormsSaid : Prop := univFormsRow.holds Try.pinned (OpenSpec.ofChange univFormsSpec)

/-- ITS FALSE NEIGHBOUR: 'it returns false'. Refute it at one input. -/
def univFormsWrong : ChangeSpec := { name := "univForms", fn := fun _ => fun
  | [d] => { results := [.lit (.bool false)], args := [d] }
  | _ => none }
def UnivFormsWrongFalsely : Prop := univFormsRow.holds Try.pinned (OpenSpec.ofChange univFormsWrong)

/-- 'narcissuslaw06.UnivRuns': WHATEVER THE INPUT: true; the input reads as it did. -/
def univRunsSpec : ChangeSpec := { name := "univRuns", fn := fun _ => fun
  | [d1, d2, d3] => { results := [.lit (.bool true)], args := [d1, d2, d3] }
  | _ => none }
def univRunsRow : OpenClaim := { program := "ytlaeljkjdfffjaa", sum := "02f9b65bfc9073617f15a20591c701c3fb87e21a71dae45e349202090450df81", func := "narcissus/narcissuslaw06.UnivRuns", spec := "univRuns", unfollowed := true, recurses := true, apart := false }
def UnivRunsSaid : Prop := univRunsRow.holds Try.pinned (OpenSpec.ofChange univRunsSpec)

/-- ITS FALSE NEIGHBOUR: 'it returns false'. Refute it at one input. -/
def univRunsWrong : ChangeSpec := { name := "univRuns", fn := fun _ => fun
  | [d1, d2, d3] => { results := [.lit (.bool false)], args := [d1, d2, d3] }
  | _ => none }
def UnivRunsWrongFalsely : Prop := univRunsRow.holds Try.pinned (OpenSpec.ofChange univRunsWrong)

/-- 'narcissuslaw06.UnivNever': WHATEVER THE INPUT: true; the input reads as it did. -/
def univNeverSpec : ChangeSpec := { name := "univNever", fn := fun _ => fun
  | [d1, d2, d3] => { results := [.lit (.bool true)], args := [d1, d2, d3] }
  | _ => none }
def univNeverRow : OpenClaim := { program := "ytlaeljkjdfffjaa", sum := "02f9b65bfc9073617f15a20591c701c3fb87e21a71dae45e349202090450df81", func := "narcissus/narcissuslaw06.UnivNever", spec := "univNever", unfollowed := true, recurses := true, apart := false }
def UnivNeverSaid : Prop := univNeverRow.holds Try.pinned (OpenSpec.ofChange univNeverSpec)

/-- ITS FALSE NEIGHBOUR: 'it returns false'. Refute it at one input. -/
def univNeverWrong : ChangeSpec := { name := "univNever", fn := fun _ => fun
  | [d1, d2, d3] => { results := [.lit (.bool false)], args := [d1, d2, d3] }
  | _ => none }
def UnivNeverWrongFalsely : Prop := univNeverRow.holds Try.pinned (OpenSpec.ofChange univNeverWrong)

/-- 'narcissuslaw06.UnivItself': WHATEVER THE INPUT: true; the input reads as it did. -/
def univItselfSpec : ChangeSpec := { name := "univItself", fn := fun _ => fun
  | [d1, d2, d3] => { results := [.lit (.bool true)], args := [d1, d2, d3] }
  | _ => none }
def univItselfRow : OpenClaim := { program := "ytlaeljkjdfffjaa", sum := "02f9b65bfc9073617f15a20591c701c3fb87e21a71dae45e349202090450df81", func := "narcissus/narcissuslaw06.UnivItself", spec := "univItself", unfollowed := true, recurses := true, apart := false }
def UnivItselfSaid : Prop := univItselfRow.holds Try.pinned (OpenSpec.ofChange univItselfSpec)

/-- ITS FALSE NEIGHBOUR: 'it returns false'. Refute it at one input. -/
def univItselfWrong : ChangeSpec := { name := "univItself", fn := fun _ => fun
  | [d1, d2, d3] => { results := [.lit (.bool false)], args := [d1, d2, d3] }
  | _ => none }
def UnivItselfWrongFalsely : Prop := univItselfRow.holds Try.pinned (OpenSpec.ofChange univItselfWrong)

/-- 'narcissuslaw06.UnivHeads': WHATEVER THE INPUT: true; the input reads as it did. -/
def univHeadsSpec : ChangeSpec := { name := "univHeads", fn := fun _ => fun
  | [d1, d2] => { results := [.lit (.bool true)], args := [d1, d2] }
  | _ => none }
def univHeadsRow : OpenClaim := { program := "ytlaeljkjdfffjaa", sum := "02f9b65bfc9073617f15a20591c701c3fb87e21a71dae45e349202090450df81", func := "narcissus/narcissuslaw06.UnivHeads", spec := "univHeads", unfollowed := true, recurses := true, apart := false }
def UnivHeadsSaid : Prop := univHeadsRow.holds Try.pinned (OpenSpec.ofChange univHeadsSpec)

/-- ITS FALSE NEIGHBOUR: 'it returns false'. Refute it at one input. -/
def univHeadsWrong : ChangeSpec := { name := "univHeads", fn := fun _ => fun
  | [d1, d2] => { results := [.lit (.bool false)], args := [d1, d2] }
  | _ => none }
def UnivHeadsWrongFalsely : Prop := univHeadsRow.holds Try.pinned (OpenSpec.ofChange univHeadsWrong)

/-- 'narcissuslaw05.SpecMeta': WHATEVER THE INPUT: true; the input reads as it did. -/
def specMetaSpec : ChangeSpec := { name := "specMeta", fn := fun _ => fun
  | [d1, d2] => { results := [.lit (.bool true)], args := [d1, d2] }
  | _ => none }
def specMetaRow : OpenClaim := { program := "ytlaeljkjdfffjaa", sum := "02f9b65bfc9073617f15a20591c701c3fb87e21a71dae45e349202090450df81", func := "narcissus/narcissuslaw05.SpecMeta", spec := "specMeta", inPlace := ["internal/abi.NoEscape", "internal/bytealg.MakeNoZero"], unfollowed := true, recurses := true, apart := false }
def SpecMetaSaid : Prop := specMetaRow.holds Try.pinned (OpenSpec.ofChange specMetaSpec)

/-- ITS FALSE NEIGHBOUR: 'it returns false'. Refute it at one input. -/
def specMetaWrong : ChangeSpec := { name := "specMeta", fn := fun _ => fun
  | [d1, d2] => { results := [.lit (.bool false)], args := [d1, d2] }
  | _ => none }
def SpecMetaWrongFalsely : Prop := specMetaRow.holds Try.pinned (OpenSpec.ofChange specMetaWrong)

/-- 'narcissuslaw05.SpecAgain': WHATEVER THE INPUT: true; the input reads as it did. -/
def specAgainSpec : ChangeSpec := { name := "specAgain", fn := fun _ => fun
  | [d] => { results := [.lit (.bool true)], args := [d] }
  | _ => none }
def specAgainRow : OpenClaim := { program := "ytlaeljkjdfffjaa", sum := "02f9b65bfc9073617f15a20591c701c3fb87e21a71dae45e349202090450df81", func := "narcissus/narcissuslaw05.SpecAgain", spec := "specAgain", inPlace := ["internal/abi.NoEscape", "internal/bytealg.MakeNoZero"], unfollowed := true, recurses := true, apart := false }
def SpecAgainSaid : Prop := specAgainRow.holds Try.pinned (OpenSpec.ofChange specAgainSpec)

/-- ITS FALSE NEIGHBOUR: 'it returns false'. Refute it at one input. -/
def specAgainWrong : ChangeSpec := { name := "specAgain", fn := fun _ => fun
  | [d] => { results := [.lit (.bool false)], args := [d] }
  | _ => none }
def SpecAgainWrongFalsely : Prop := specAgainRow.holds Try.pinned (OpenSpec.ofChange specAgainWrong)

/-- 'narcissuslaw05.SpecFound': WHATEVER THE INPUT: true; the input reads as it did. -/
def specFoundSpec : ChangeSpec := { name := "specFound", fn := fun _ => fun
  | [d1, d2] => { results := [.lit (.bool true)], args := [d1, d2] }
  | _ => none }
def specFoundRow : OpenClaim := { program := "ytlaeljkjdfffjaa", sum := "02f9b65bfc9073617f15a20591c701c3fb87e21a71dae45e349202090450df81", func := "narcissus/narcissuslaw05.SpecFound", spec := "specFound", inPlace := ["internal/abi.NoEscape", "internal/bytealg.MakeNoZero"], unfollowed := true, recurses := true, apart := false }
def SpecFoundSaid : Prop := specFoundRow.holds Try.pinned (OpenSpec.ofChange specFoundSpec)

/-- ITS FALSE NEIGHBOUR: 'it returns false'. Refute it at one input. -/
def specFoundWrong : ChangeSpec := { name := "specFound", fn := fun _ => fun
  | [d1, d2] => { results := [.lit (.bool false)], args := [d1, d2] }
  | _ => none }
def SpecFoundWrongFalsely : Prop := specFoundRow.holds Try.pinned (OpenSpec.ofChange specFoundWrong)

/-- 'narcissustop.TopSpec': WHATEVER THE INPUT: true; the input reads as it did. -/
def topSpecSpec : ChangeSpec := { name := "topSpec", fn := fun _ => fun
  | [d1, d2, d3] => { results := [.lit (.bool true)], args := [d1, d2, d3] }
  | _ => none }
def topSpecRow : OpenClaim := { program := "ytlaeljkjdfffjaa", sum := "02f9b65bfc9073617f15a20591c701c3fb87e21a71dae45e349202090450df81", func := "narcissus/narcissustop.TopSpec", spec := "topSpec", inPlace := ["internal/abi.NoEscape", "internal/bytealg.MakeNoZero"], unfollowed := true, recurses := true, apart := false }
def TopSpecSaid : Prop := topSpecRow.holds Try.pinned (OpenSpec.ofChange topSpecSpec)

/-- ITS FALSE NEIGHBOUR: 'it returns false'. Refute it at one input. -/
def topSpecWrong : ChangeSpec := { name := "topSpec", fn := fun _ => fun
  | [d1, d2, d3] => { results := [.lit (.bool false)], args := [d1, d2, d3] }
  | _ => none }
def TopSpecWrongFalsely : Prop := topSpecRow.holds Try.pinned (OpenSpec.ofChange topSpecWrong)

/-- 'narcissustop.TopDefeat': WHATEVER THE INPUT: true; the input reads as it did. -/
def topDefeatSpec : ChangeSpec := { name := "topDefeat", fn := fun _ => fun
  | [d1, d2, d3] => { results := [.lit (.bool true)], args := [d1, d2, d3] }
  | _ => none }
def topDefeatRow : OpenClaim := { program := "ytlaeljkjdfffjaa", sum := "02f9b65bfc9073617f15a20591c701c3fb87e21a71dae45e349202090450df81", func := "narcissus/narcissustop.TopDefeat", spec := "topDefeat", inPlace := ["internal/abi.NoEscape", "internal/bytealg.MakeNoZero"], unfollowed := true, recurses := true, apart := false }
def TopDefeatSaid : Prop := topDefeatRow.holds Try.pinned (OpenSpec.ofChange topDefeatSpec)

/-- ITS FALSE NEIGHBOUR: 'it returns false'. Refute it at one input. -/
def topDefeatWrong : ChangeSpec := { name := "topDefeat", fn := fun _ => fun
  | [d1, d2, d3] => { results := [.lit (.bool false)], args := [d1, d2, d3] }
  | _ => none }
def TopDefeatWrongFalsely : Prop := topDefeatRow.holds Try.pinned (OpenSpec.ofChange topDefeatWrong)

/-- 'narcissustop.TopFix': WHATEVER THE INPUT: true; the input reads as it did. -/
def topFixSpec : ChangeSpec := { name := "topFix", fn := fun _ => fun
  | [d1, d2] => { results := [.lit (.bool true)], args := [d1, d2] }
  | _ => none }
def topFixRow : OpenClaim := { program := "ytlaeljkjdfffjaa", sum := "02f9b65bfc9073617f15a20591c701c3fb87e21a71dae45e349202090450df81", func := "narcissus/narcissustop.TopFix", spec := "topFix", inPlace := ["internal/abi.NoEscape", "internal/bytealg.MakeNoZero"], unfollowed := true, recurses := true, apart := false }
def TopFixSaid : Prop := topFixRow.holds Try.pinned (OpenSpec.ofChange topFixSpec)

/-- ITS FALSE NEIGHBOUR: 'it returns false'. Refute it at one input. -/
def topFixWrong : ChangeSpec := { name := "topFix", fn := fun _ => fun
  | [d1, d2] => { results := [.lit (.bool false)], args := [d1, d2] }
  | _ => none }
def TopFixWrongFalsely : Prop := topFixRow.holds Try.pinned (OpenSpec.ofChange topFixWrong)

/- THE SECOND FORM. 'bulk': how many values and letters a reading holds, each counted each time it is reached (what is shared counts as often as it is met; a slice's spare places count too). A statement '..UptoSaid' is the law's where the arguments, and the package variables that the reading takes, are together of bulk at most 1048576: NARROWER than '..Said'. Prove '..Said' where nothing that the law and all that it calls make is longer than what came in: it says more and counts as full. Else prove '..UptoSaid'. A law counts once. -/
mutual
def uptoBulk {H : Type} : DataW H → Nat
  | .lit (.string bytes) => bytes.length + 1
  | .lit _ => 1
  | .nil => 1
  | .ptr d => uptoBulk d + 1
  | .slice elems spare => uptoBulkAll elems + uptoBulkAll spare + 1
  | .agg parts => uptoBulkAll parts + 1
  | .iface _ d => uptoBulk d + 1
  | .map entries => uptoBulkEntries entries + 1
  | .held _ => 1
def uptoBulkAll {H : Type} : List (DataW H) → Nat
  | [] => 0
  | d :: r => uptoBulk d + uptoBulkAll r
def uptoBulkEntries {H : Type} : List (Lit × DataW H) → Nat
  | [] => 0
  | x :: r => uptoBulkEntry x + uptoBulkEntries r
def uptoBulkEntry {H : Type} : Lit × DataW H → Nat
  | (.string bytes, d) => bytes.length + uptoBulk d + 1
  | (_, d) => uptoBulk d + 1
 end
def uptoSmall : (H : Type) → List (DataW H) → Bool := fun _ ds => decide (uptoBulkAll ds ≤ 1048576)
def OpenSpec.upto (s : _root_.Go.ChangeSpec) : _root_.Go.OpenSpec := { _root_.Go.OpenSpec.ofChange s with cond := some uptoSmall }

/-- 'narcissustop.TopItself', WHERE WHAT IT READS IS OF BULK AT MOST 1048576: true; the input reads as it did. -/
def topItselfUptoRow : OpenClaim := { program := "ytlaeljkjdfffjaa", sum := "02f9b65bfc9073617f15a20591c701c3fb87e21a71dae45e349202090450df81", func := "narcissus/narcissustop.TopItself", spec := "topItself", unfollowed := true, recurses := true, apart := false, narrowed := true }
def TopItselfUptoSaid : Prop := topItselfUptoRow.holds Try.pinned (OpenSpec.upto topItselfSpec)

/-- 'narcissuslaw06.UnivForms', WHERE WHAT IT READS IS OF BULK AT MOST 1048576: true; the input reads as it did. -/
def univFormsUptoRow : OpenClaim := { program := "ytlaeljkjdfffjaa", sum := "02f9b65bfc9073617f15a20591c701c3fb87e21a71dae45e349202090450df81", func := "narcissus/narcissuslaw06.UnivForms", spec := "univForms", unfollowed := true, recurses := true, apart := false, narrowed := true }
def UnivFormsUptoSaid : Prop := univFormsUptoRow.holds Try.pinned (OpenSpec.upto univFormsSpec)

/-- 'narcissuslaw06.UnivRuns', WHERE WHAT IT READS IS OF BULK AT MOST 1048576: true; the input reads as it did. -/
def univRunsUptoRow : OpenClaim := { program := "ytlaeljkjdfffjaa", sum := "02f9b65bfc9073617f15a20591c701c3fb87e21a71dae45e349202090450df81", func := "narcissus/narcissuslaw06.UnivRuns", spec := "univRuns", unfollowed := true, recurses := true, apart := false, narrowed := true }
def UnivRunsUptoSaid : Prop := univRunsUptoRow.holds Try.pinned (OpenSpec.upto univRunsSpec)

/-- 'narcissuslaw06.UnivNever', WHERE WHAT IT READS IS OF BULK AT MOST 1048576: true; the input reads as it did. -/
def univNeverUptoRow : OpenClaim := { program := "ytlaeljkjdfffjaa", sum := "02f9b65bfc9073617f15a20591c701c3fb87e21a71dae45e349202090450df81", func := "narcissus/narcissuslaw06.UnivNever", spec := "univNever", unfollowed := true, recurses := true, apart := false, narrowed := true }
def UnivNeverUptoSaid : Prop := univNeverUptoRow.holds Try.pinned (OpenSpec.upto univNeverSpec)

/-- 'narcissuslaw06.UnivItself', WHERE WHAT IT READS IS OF BULK AT MOST 1048576: true; the input reads as it did. -/
def univItselfUptoRow : OpenClaim := { program := "ytlaeljkjdfffjaa", sum := "02f9b65bfc9073617f15a20591c701c3fb87e21a71dae45e349202090450df81", func := "narcissus/narcissuslaw06.UnivItself", spec := "univItself", unfollowed := true, recurses := true, apart := false, narrowed := true }
def UnivItselfUptoSaid : Prop := univItselfUptoRow.holds Try.pinned (OpenSpec.upto univItselfSpec)

/-- 'narcissuslaw06.UnivHeads', WHERE WHAT IT READS IS OF BULK AT MOST 1048576: true; the input reads as it did. -/
def univHeadsUptoRow : OpenClaim := { program := "ytlaeljkjdfffjaa", sum := "02f9b65bfc9073617f15a20591c701c3fb87e21a71dae45e349202090450df81", func := "narcissus/narcissuslaw06.UnivHeads", spec := "univHeads", unfollowed := true, recurses := true, apart := false, narrowed := true }
def UnivHeadsUptoSaid : Prop := univHeadsUptoRow.holds Try.pinned (OpenSpec.upto univHeadsSpec)

/-- 'narcissuslaw05.SpecMeta', WHERE WHAT IT READS IS OF BULK AT MOST 1048576: true; the input reads as it did. -/
def specMetaUptoRow : OpenClaim := { program := "ytlaeljkjdfffjaa", sum := "02f9b65bfc9073617f15a20591c701c3fb87e21a71dae45e349202090450df81", func := "narcissus/narcissuslaw05.SpecMeta", spec := "specMeta", inPlace := ["internal/abi.NoEscape", "internal/bytealg.MakeNoZero"], unfollowed := true, recurses := true, apart := false, narrowed := true }
def SpecMetaUptoSaid : Prop := specMetaUptoRow.holds Try.pinned (OpenSpec.upto specMetaSpec)

/-- 'narcissuslaw05.SpecAgain', WHERE WHAT IT READS IS OF BULK AT MOST 1048576: true; the input reads as it did. -/
def specAgainUptoRow : OpenClaim := { program := "ytlaeljkjdfffjaa", sum := "02f9b65bfc9073617f15a20591c701c3fb87e21a71dae45e349202090450df81", func := "narcissus/narcissuslaw05.SpecAgain", spec := "specAgain", inPlace := ["internal/abi.NoEscape", "internal/bytealg.MakeNoZero"], unfollowed := true, recurses := true, apart := false, narrowed := true }
def SpecAgainUptoSaid : Prop := specAgainUptoRow.holds Try.pinned (OpenSpec.upto specAgainSpec)

/-- 'narcissuslaw05.SpecFound', WHERE WHAT IT READS IS OF BULK AT MOST 1048576: true; the input reads as it did. -/
def specFoundUptoRow : OpenClaim := { program := "ytlaeljkjdfffjaa", sum := "02f9b65bfc9073617f15a20591c701c3fb87e21a71dae45e349202090450df81", func := "narcissus/narcissuslaw05.SpecFound", spec := "specFound", inPlace := ["internal/abi.NoEscape", "internal/bytealg.MakeNoZero"], unfollowed := true, recurses := true, apart := false, narrowed := true }
def SpecFoundUptoSaid : Prop := specFoundUptoRow.holds Try.pinned (OpenSpec.upto specFoundSpec)

/-- 'narcissustop.TopSpec', WHERE WHAT IT READS IS OF BULK AT MOST 1048576: true; the input reads as it did. -/
def topSpecUptoRow : OpenClaim := { program := "ytlaeljkjdfffjaa", sum := "02f9b65bfc9073617f15a20591c701c3fb87e21a71dae45e349202090450df81", func := "narcissus/narcissustop.TopSpec", spec := "topSpec", inPlace := ["internal/abi.NoEscape", "internal/bytealg.MakeNoZero"], unfollowed := true, recurses := true, apart := false, narrowed := true }
def TopSpecUptoSaid : Prop := topSpecUptoRow.holds Try.pinned (OpenSpec.upto topSpecSpec)

/-- 'narcissustop.TopDefeat', WHERE WHAT IT READS IS OF BULK AT MOST 1048576: true; the input reads as it did. -/
def topDefeatUptoRow : OpenClaim := { program := "ytlaeljkjdfffjaa", sum := "02f9b65bfc9073617f15a20591c701c3fb87e21a71dae45e349202090450df81", func := "narcissus/narcissustop.TopDefeat", spec := "topDefeat", inPlace := ["internal/abi.NoEscape", "internal/bytealg.MakeNoZero"], unfollowed := true, recurses := true, apart := false, narrowed := true }
def TopDefeatUptoSaid : Prop := topDefeatUptoRow.holds Try.pinned (OpenSpec.upto topDefeatSpec)

/-- 'narcissustop.TopFix', WHERE WHAT IT READS IS OF BULK AT MOST 1048576: true; the input reads as it did. -/
def topFixUptoRow : OpenClaim := { program := "ytlaeljkjdfffjaa", sum := "02f9b65bfc9073617f15a20591c701c3fb87e21a71dae45e349202090450df81", func := "narcissus/narcissustop.TopFix", spec := "topFix", inPlace := ["internal/abi.NoEscape", "internal/bytealg.MakeNoZero"], unfollowed := true, recurses := true, apart := false, narrowed := true }
def TopFixUptoSaid : Prop := topFixUptoRow.holds Try.pinned (OpenSpec.upto topFixSpec)

end Rows
end Go.Proofs.Ytlaeljkjdfffjaa

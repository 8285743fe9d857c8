/- ref09: Defeat, Liar. -/
import Derived.Test.YtlaeljkjdfffjaaDef2
namespace Go.Proofs.Ytlaeljkjdfffjaa
open Go.RowKit

theorem cleanK_snoc (m : Nat) : cleanK (m + 1) = cleanK m ++ [setI (m + 1) ⟨#[48]⟩] := by unfold cleanK; rw [List.range_succ, List.map_append]; rfl
end Go.Proofs.Ytlaeljkjdfffjaa


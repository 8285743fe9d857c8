/- law04: BuildThens. -/
import Derived.Test.YtdjbcmfjlfkcjaaAwake4
namespace Go.Proofs.Ytdjbcmfjlfkcjaa
open Go.RowKit

theorem dueN_zero {ls : List (List Ins)} {m : List Ins} (h : dueN ls m = 0) : allV ls = true := by
  cases hv : allV ls with
  | true => rfl
  | false => unfold dueN at h; rw [if_pos hv] at h; cases h
end Go.Proofs.Ytdjbcmfjlfkcjaa


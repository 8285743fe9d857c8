/- ref09: Defeat, Liar. -/
import Derived.Test.YtdjbcmfjlfkcjaaDef2
namespace Go.Proofs.Ytdjbcmfjlfkcjaa
open Go.RowKit

theorem knowD_inv {q : List Ins} (h : validB q = false) : knowD q = [] := by
  unfold knowD
  rw [if_neg]
  unfold knowE
  rw [if_pos (by rw [h])]
  decide
theorem defQ_built (d y n : List Ins) (W m : Nat) (hm : W = m + 1) : ((((((([⟨4, W, 0, 0, ⟨#[]⟩⟩, ⟨3, 0, 0, 0, ⟨#[]⟩⟩] ++ d) ++ [moveI (W + 1) 0]) ++ cleanK m) ++ [moveI 0 W, jumpI (W + 1) (3 + (y.length : Int))]) ++ y) ++ [setI (W + 1) ⟨#[49, 48, 48]⟩, jumpI (W + 1) (1 + (n.length : Int))]) ++ n) = defQ d y n W := by
  unfold defQ
  rw [show W - 1 = m by omega, Int.add_comm 3, Int.add_comm 1]
theorem cleanK_snoc (m : Nat) : cleanK (m + 1) = cleanK m ++ [setI (m + 1) ⟨#[48]⟩] := by unfold cleanK; rw [List.range_succ, List.map_append]; rfl
end Go.Proofs.Ytdjbcmfjlfkcjaa


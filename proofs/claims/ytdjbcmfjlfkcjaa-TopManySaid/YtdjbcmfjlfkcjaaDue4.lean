/- law04's due and told. -/
import Derived.Test.YtdjbcmfjlfkcjaaMB3
import Derived.Test.YtdjbcmfjlfkcjaaBuildV
namespace Go.Proofs.Ytdjbcmfjlfkcjaa
open Go.RowKit

theorem mostR_ge {ls : List (List Ins)} {k : Nat} {l : List Ins} (hl : ls[k]? = some l) : regN l ≤ mostR ls := by
  unfold mostR
  have hm : regN l ∈ ls.map regN := List.mem_map.2 ⟨l, List.mem_of_getElem? hl, rfl⟩
  revert hm
  generalize ls.map regN = m
  intro hm
  induction m with
  | nil => cases hm
  | cons a m ih =>
    simp only [List.foldr_cons]
    rcases List.mem_cons.1 hm with h | h
    · omega
    · have := ih h; omega

end Go.Proofs.Ytdjbcmfjlfkcjaa


/- law07's Coded and Follows. -/
import Derived.Test.YtlaeljkjdfffjaaMB4
import Derived.Test.YtlaeljkjdfffjaaMB1
import Derived.Test.YtlaeljkjdfffjaaEqual
namespace Go.Proofs.Ytlaeljkjdfffjaa
open Go.RowKit

theorem done_le {l : List Ins} {k m : Nat} {t : Tr} {s : St} (hR : goF l k 0 (startS t) = .done s m) : m ≤ k := by
  rcases goF_how l k 0 (startS t) with ⟨s', m', h1, h2, _⟩ | ⟨s', h1, _⟩ | ⟨s', m', h1, _⟩
  · rw [hR] at h1; injection h1 with _ h; omega
  · rw [hR] at h1; cases h1
  · rw [hR] at h1; cases h1
end Go.Proofs.Ytlaeljkjdfffjaa


/- spec: Meta. -/
import Derived.Test.YtlaeljkjdfffjaaAsm3
import Derived.Test.YtlaeljkjdfffjaaMetaP
namespace Go.Proofs.Ytlaeljkjdfffjaa
open Go.RowKit Go.Maps

theorem AsmG.put_sz (g : AsmG) (x : Ins) : (g.put x).sz = g.sz + 1 := by unfold AsmG.sz AsmG.put; simp; omega
end Go.Proofs.Ytlaeljkjdfffjaa


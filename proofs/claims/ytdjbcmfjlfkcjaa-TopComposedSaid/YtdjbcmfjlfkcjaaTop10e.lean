/- narcissustop: TopComposed. -/
import Derived.Test.YtdjbcmfjlfkcjaaTop10a
import Derived.Test.YtdjbcmfjlfkcjaaTop10b
import Derived.Test.YtdjbcmfjlfkcjaaTop10c
import Derived.Test.YtdjbcmfjlfkcjaaTop10d
namespace Go.Proofs.Ytdjbcmfjlfkcjaa
open Go.RowKit

theorem law_TopComposed {w : World} (vc : Value) (c : List Ins) (hhc : InsRow w w.heap.size vc c) (vp : Value) (p : List Ins) (hhp : InsRow w w.heap.size vp p) (vq : Value) (q : List Ins) (hhq : InsRow w w.heap.size vq q) (x : ByteArray) (hxs : x.size ≤ 140737488355328) :
    Calls Try.prog 4 #[vc, vp, .agg #[vq, .string x]] w fun e w' => e = .returned (.bool true) ∧ Below w.heap.size w w' := by
  cases hbg : growB x 2000 with
  | false => exact tc_ng vc c hhc vp p hhp vq q hhq x hxs hbg _ rfl
  | true =>
    cases hbf : fewB [c, p, q] with
    | false => exact tc_nf vc c hhc vp p hhp vq q hhq x hxs hbg hbf
    | true =>
      cases gp : goF p 300 0 (startS (toTr x)) with
      | fuel sp kp => exact tc_fuel vc c hhc vp p hhp vq q hhq x hxs hbg hbf sp kp gp
      | big => exact tc_big vc c hhc vp p hhp vq q hhq x hxs hbg hbf gp
      | done sp kp =>
        cases g1 : goF q 300 0 (startS (getR sp.regs 0)) with
        | fuel s1 n1 => exact tc_done_fuel vc c hhc vp p hhp vq q hhq x hxs hbg hbf sp kp gp s1 n1 g1
        | big => exact tc_done_big vc c hhc vp p hhp vq q hhq x hxs hbg hbf sp kp gp g1
        | done s1 n1 => exact tc_done_done vc c hhc vp p hhp vq q hhq x hxs hbg hbf sp kp gp s1 n1 g1
end Go.Proofs.Ytdjbcmfjlfkcjaa


/- univ: what the universal program's writer does, plainly. -/
import Derived.Test.YtlaeljkjdfffjaaAsmP
import Derived.Test.YtlaeljkjdfffjaaUnivP
namespace Go.Proofs.Ytlaeljkjdfffjaa
open Go.RowKit

/-- A writer whose places are numbered where they have no names. -/
structure UnG where
  a : AsmG
  n : Nat
def nameS (n : Nat) : ByteArray := ⟨#[46, (97 + n % 26).toUInt8, (97 + n / 26).toUInt8]⟩
def UnG.up (g : UnG) (f : AsmG → AsmG) : UnG := { g with a := f g.a }
def UnG.put (g : UnG) (x : Ins) : UnG := g.up fun a => a.put x
def UnG.here (g : UnG) (s : ByteArray) : UnG := g.up fun a => a.here s
def UnG.jump (g : UnG) (a : Nat) (s : ByteArray) : UnG := g.up fun x => x.jump a s
def UnG.leap (g : UnG) (s : ByteArray) : UnG := g.jump 14 s
def UnG.step (g : UnG) (k : Nat) : UnG := { g with n := g.n + k }
def UnG.count (f : UnG → UnG) (g : UnG) : UnG :=
  ((((f (((((g.step 3).here (nameS (g.n + 1))).jump 10 (nameS (g.n + 2))).leap (nameS (g.n + 3))).here (nameS (g.n + 2)))).put (tlI 10 10)).leap (nameS (g.n + 1))).here (nameS (g.n + 3)))
def UnG.fetch (t : Nat) (g : UnG) : UnG := (UnG.count (fun g => g.put (tlI 11 11)) (g.put (moveI 11 4))).put (hdI t 11)
def UnG.storeA (g : UnG) : UnG := ((UnG.count (fun g => ((g.put (hdI 13 11)).put (consI 12 13 12)).put (tlI 11 11)) (((g.put (moveI 11 4)).put (setI 12 ⟨#[48]⟩)).put (moveI 10 7))).put (tlI 11 11)).put (consI 11 8 11)
def UnG.storeB (g : UnG) : UnG :=
  (((((((((((g.step 3).here (nameS (g.n + 1))).jump 12 (nameS (g.n + 2))).leap (nameS (g.n + 3))).here (nameS (g.n + 2))).put (hdI 13 12)).put (consI 11 13 11)).put (tlI 12 12)).leap (nameS (g.n + 1))).here (nameS (g.n + 3))).put (moveI 4 11))
def UnG.store (g : UnG) : UnG := g.storeA.storeB
def UnG.next (g : UnG) : UnG := ((g.put (tlI 2 2)).put (setI 13 ⟨#[48]⟩)).put (consI 3 13 3)
def UnG.kind (f : UnG → UnG) (s : ByteArray) (g : UnG) : UnG := (((f ((g.step 1).jump 5 (nameS (g.n + 1)))).leap s).here (nameS (g.n + 1))).put (tlI 5 5)
def UnG.get (g : UnG) : UnG := UnG.fetch 8 (g.put (moveI 10 6))
def sLoop : ByteArray := ⟨#[108, 111, 111, 112]⟩
def sGo : ByteArray := ⟨#[103, 111]⟩
def sEnd : ByteArray := ⟨#[101, 110, 100]⟩
def sStore : ByteArray := ⟨#[115, 116, 111, 114, 101]⟩
def sTaken : ByteArray := ⟨#[116, 97, 107, 101, 110]⟩
def sNext : ByteArray := ⟨#[110, 101, 120, 116]⟩
def sBack : ByteArray := ⟨#[98, 97, 99, 107]⟩
def UnG.u1 (g : UnG) : UnG := ((((((((((((((g.put (hdI 1 0)).put (tlI 8 0)).put (moveI 2 1)).put (consI 4 8 4)).put (setI 14 ⟨#[49, 48, 48]⟩)).here sLoop).jump 2 sGo).put (hdI 0 4)).leap sEnd).here sGo).put (hdI 13 2)).put (hdI 5 13)).put (tlI 6 13)).put (hdI 7 6)).put (tlI 6 6)
def UnG.k1 (g : UnG) : UnG := g.put (moveI 8 6)
def UnG.k2 (g : UnG) : UnG := (UnG.fetch 8 ((UnG.fetch 9 (g.put (hdI 10 6))).put (tlI 10 6))).put (consI 8 9 8)
def UnG.k3 (g : UnG) : UnG := g.get.put (hdI 8 8)
def UnG.k4 (g : UnG) : UnG := g.get.put (tlI 8 8)
def UnG.u2 (g : UnG) : UnG := UnG.kind UnG.k4 sStore (UnG.kind UnG.k3 sStore (UnG.kind UnG.k2 sStore (UnG.kind UnG.get sStore (UnG.kind UnG.k1 sStore g))))
def UnG.u3 (g : UnG) : UnG := ((((((UnG.fetch 8 (g.put (moveI 10 7))).jump 8 sTaken).here sNext).next.leap sLoop).here sStore).store.leap sNext)
def UnG.u4 (g : UnG) : UnG := ((UnG.count UnG.next ((((g.here sTaken).put (hdI 13 6)).put (tlI 10 6)).jump 13 sBack)).leap sLoop)
def UnG.u5 (g : UnG) : UnG := ((UnG.count (fun g => g.put (tlI 2 2)) ((((UnG.count (fun g => g.put (tlI 3 3)) (g.here sBack)).put (moveI 2 1)).put (moveI 10 3)))).leap sLoop).here sEnd
def UnG.univ (g : UnG) : UnG := g.u1.u2.u3.u4.u5
def univG : UnG := UnG.univ ⟨AsmG.new, 0⟩
theorem univG_done : univG.a.done = univL := by decide +kernel

end Go.Proofs.Ytlaeljkjdfffjaa


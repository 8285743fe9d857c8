/- asm: what a writer is, and what it writes. -/
import Derived.Maps.OwnOps
import Derived.Maps.RangeWalk
import Derived.Test.YtlaeljkjdfffjaaMB2
namespace Go.Proofs.Ytlaeljkjdfffjaa
open Go.RowKit

/-- What a writer holds: the program, the places that have names, the jumps to names; how often one of the two was written. -/
structure AsmG where
  p : List Ins
  pl : DataW Unit
  fr : DataW Unit
  n : Nat
def AsmG.new : AsmG := ⟨[], .map [], .map [], 0⟩
def AsmG.put (g : AsmG) (x : Ins) : AsmG := { g with p := g.p ++ [x] }
def keyS (s : ByteArray) : Lit := .string s.data.toList
def keyI (k : Int) : Lit := .int .i64 k
def AsmG.want (g : AsmG) (s : ByteArray) : AsmG := { g with fr := g.fr.put (keyI g.p.length) (.lit (keyS s)), n := g.n + 1 }
def AsmG.jump (g : AsmG) (a : Nat) (s : ByteArray) : AsmG := (g.want s).put (jumpI a 0)
def AsmG.sz (g : AsmG) : Nat := g.p.length + g.n
/-- The number that a name stands for, and the name that a jump has. -/
def intD : DataW Unit → Int
  | .lit (.int _ a) => a
  | _ => 0
def litD : DataW Unit → Lit
  | .lit l => l
  | _ => .bool false
def AsmG.goal (g : AsmG) (k : Nat) : Int := intD (g.pl.atKey (litD (g.fr.atKey (keyI k) .nil)) (.lit (keyI 0))) - k
/-- The program while some of the jumps are still to be done. -/
def AsmG.part (g : AsmG) (left : Lit → Bool) : List Ins := g.p.mapIdx fun k x => if Maps.has g.fr (keyI k) && !left (keyI k) then { x with b := g.goal k } else x
def AsmG.done (g : AsmG) : List Ins := g.part fun _ => false
def hdI (a b : Nat) : Ins := ⟨3, a, b, 0, ⟨#[]⟩⟩
def tlI (a b : Nat) : Ins := ⟨4, a, b, 0, ⟨#[]⟩⟩
theorem AsmG.part_length (g : AsmG) (left : Lit → Bool) : (g.part left).length = g.p.length := by simp [AsmG.part]
theorem AsmG.part_start (g : AsmG) : g.part (Maps.has g.fr) = g.p := by
  unfold AsmG.part
  apply List.ext_getElem?
  intro k
  rw [List.getElem?_mapIdx]
  cases g.p[k]? with
  | none => rfl
  | some x => cases h : Maps.has g.fr (keyI k) <;> simp
theorem AsmG.part_end (g : AsmG) (left : Lit → Bool) (h : ∀ k, left k = false) : g.part left = g.done := by
  unfold AsmG.done AsmG.part
  simp [h]
theorem AsmG.part_step (g : AsmG) (left : Lit → Bool) (k : Nat) (x : Ins) (hx : (g.part left)[k]? = some x) (hl : left (keyI k) = true) (hh : Maps.has g.fr (keyI k) = true) :
    g.part (fun z => left z && !z.sameKey (keyI k)) = (g.part left).set k { x with b := g.goal k } := by
  have hkk : (keyI k).sameKey (keyI k) = true := WideAt.sameKey_self (by simp [keyI, WideAt.IsKeyLit])
  unfold AsmG.part at hx ⊢
  apply List.ext_getElem?
  intro j
  rw [List.getElem?_mapIdx, List.getElem?_set, List.length_mapIdx]
  rw [List.getElem?_mapIdx] at hx
  by_cases e : k = j
  · subst e
    cases hp : g.p[k]? with
    | none => rw [hp] at hx; simp at hx
    | some y =>
      rw [hp] at hx
      have hlt : k < g.p.length := (List.getElem?_eq_some_iff.1 hp).1
      simp only [Option.map_some, Option.some.injEq, hl, hh, Bool.not_true, Bool.and_false, Bool.false_eq_true, if_false] at hx
      subst hx
      simp [hl, hh, hkk, hlt]
  · rw [if_neg e, List.getElem?_mapIdx]
    have hne : (keyI j).sameKey (keyI k) = false := Maps.sameKey_ne (fun h => e (by unfold keyI at h; simp only [Lit.int.injEq, true_and] at h; omega))
    cases g.p[j]? with
    | none => rfl
    | some y => simp [hne]

theorem ownsMap_block {H : Type} {w w' : World} {P : Program} {k : TypeId} {R : Value → Option (DataW H × List MemPlace)} {b n : Nat} {D : DataW H} (h : w.ownsMap P k R b n D) (hb : w'.heap[b]? = w.heap[b]?) : w'.ownsMap P k R b n D := by
  obtain ⟨es, c, hb0, r⟩ := h
  exact ⟨es, c, hb.trans hb0, r⟩
theorem ownsMap_isMap {H : Type} {w : World} {P : Program} {k : TypeId} {R : Value → Option (DataW H × List MemPlace)} {b n : Nat} {D : DataW H} (h : w.ownsMap P k R b n D) : ∃ es c, w.heap[b]? = some (.map es c) := by
  obtain ⟨es, c, hb0, r⟩ := h
  exact ⟨es, c, hb0⟩

end Go.Proofs.Ytlaeljkjdfffjaa


/- law04's awake: the examples of the chapter. -/
import Derived.Test.YtdjbcmfjlfkcjaaText4
namespace Go.Proofs.Ytdjbcmfjlfkcjaa
open Go.RowKit

/-- A program that was made, where an error may be due. -/
def TB (w : World) (B : Nat) (d : Int) (m : List Ins) (v : Value) : Prop := (d = 0 → InsRow w B v m) ∧ (d ≠ 0 → v = .slice none 0 0)
theorem TB.below {w w' : World} {B : Nat} {d : Int} {m : List Ins} {v : Value} (h : TB w B d m v) (hb : Below B w w') : TB w' B d m v := ⟨fun e => (h.1 e).below hb, h.2⟩
theorem TB.mono {w : World} {B B' : Nat} {d : Int} {m : List Ins} {v : Value} (h : TB w B d m v) (hB : B ≤ B') : TB w B' d m v := ⟨fun e => (h.1 e).mono hB, h.2⟩
theorem made_tb {f : Nat} {args : Array Value} {w : World} {d : Int} {m : List Ins} (h : Calls Try.prog f args w (MadeOut w d m)) : Calls Try.prog f args w fun e w' => ∃ v, e = .returned (.tuple #[v, .int .i64 d]) ∧ TB w' w'.heap.size d m v ∧ Below w.heap.size w w' := by
  refine h.mono ?_
  rintro e w' ⟨h1, h2⟩
  by_cases hd : d = 0
  · rw [if_pos hd] at h1
    obtain ⟨v, rfl, h3⟩ := h1
    exact ⟨v, by rw [hd], ⟨fun _ => h3, fun e => absurd hd e⟩, h2⟩
  · rw [if_neg hd] at h1
    exact ⟨_, h1, ⟨fun e => absurd e hd, fun _ => rfl⟩, h2⟩
theorem made_ok {f : Nat} {args : Array Value} {w : World} {ls : List (List Ins)} {m : List Ins} (hd : dueN ls m = 0) (h : Calls Try.prog f args w (MadeOut w (dueN ls m) m)) : Calls Try.prog f args w fun e w' => ∃ v, e = .returned (.tuple #[v, .int .i64 0]) ∧ InsRow w' w'.heap.size v m ∧ Below w.heap.size w w' := by
  rw [hd] at h
  refine (made_tb h).mono ?_
  rintro e w' ⟨v, rfl, h1, h2⟩
  exact ⟨v, rfl, h1.1 rfl, h2⟩
theorem row_nil (w : World) (B : Nat) : InsRow w B (.slice none 0 0) [] := ⟨by simp, by simp, .inl ⟨rfl, .inl rfl⟩⟩
theorem thenDue : dueN [[tailI], [tailI]] (thenL [[tailI], [tailI]]) = 0 := by decide +kernel
theorem pairDue : dueN [[], []] (pairL [] []) = 0 := by decide +kernel
theorem whileDue : dueN [[], [tailI]] (whileL [] [tailI]) = 0 := by decide +kernel
def trL (n : Nat) : Tr := match n with | 0 => .nil | n + 1 => .pair .nil (trL n)
theorem runThen : (goF (thenL [[tailI], [tailI]]) 2000 0 (startS (trL 2))).run = (⟨#[48]⟩, 2, 0) := by decide +kernel
theorem runPair : (goF (pairL [] []) 2000 0 (startS (trL 0))).run = (⟨#[49, 48, 48]⟩, 4, 0) := by decide +kernel
theorem runWhile : (goF (whileL [] [tailI]) 2000 0 (startS (trL 3))).run = (⟨#[48]⟩, 23, 0) := by decide +kernel

end Go.Proofs.Ytdjbcmfjlfkcjaa


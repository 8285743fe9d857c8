/- Plain: where the parts stand in the programs that are put together. -/
import Derived.Test.YtdjbcmfjlfkcjaaPlayC
import Derived.Test.YtdjbcmfjlfkcjaaLaw04c
namespace Go.Proofs.Ytdjbcmfjlfkcjaa
open Go.RowKit

theorem seg_at {P a l b : List Ins} {k : Nat} (hP : P = a ++ l ++ b) (hk : k = a.length) : Seg P k l := by subst hP; subst hk; exact Seg.mid a l b
theorem seg_one {P : List Ins} {k : Nat} {x : Ins} (h : Seg P k [x]) : P[k]? = some x := by have := h 0 x rfl; rwa [Nat.add_zero] at this
structure Segs3 (P c p q : List Ins) : Prop where
  s0 : Seg P 0 c
  s1 : Seg P (0 + c.length) (cleanP p)
  s2 : Seg P (0 + c.length + (cleanP p).length) (cleanP q)
  len : P.length = 0 + c.length + (cleanP p).length + (cleanP q).length
theorem then3_segs (c p q : List Ins) : Segs3 (thenL [c, p, q]) c p q := by
  have hP : thenL [c, p, q] = c ++ cleanP p ++ cleanP q := by simp [thenL]
  refine ⟨seg_at (a := []) (b := cleanP p ++ cleanP q) (by simp [hP]) rfl, seg_at (a := c) (b := cleanP q) (by simp [hP]) (by simp), seg_at (a := c ++ cleanP p) (b := []) (by simp [hP]) (by simp), ?_⟩
  rw [hP]; simp; omega
structure SegsP (P p q : List Ins) (n : Nat) : Prop where
  m0 : P[0]? = some (moveI (n + 1) 0)
  s0 : Seg P 1 p
  m1 : P[1 + p.length]? = some (moveI (n + 2) 0)
  m2 : P[1 + p.length + 1]? = some (moveI 0 (n + 1))
  s1 : Seg P (1 + p.length + 1 + 1) (cleanP q)
  m3 : P[1 + p.length + 1 + 1 + (cleanP q).length]? = some (consI 0 (n + 2) 0)
  len : P.length = 1 + p.length + 1 + 1 + (cleanP q).length + 1
theorem pair_segs (p q : List Ins) (n : Nat) (hn : max (regN p) (regN q) = n + 1) : SegsP (pairL p q) p q n := by
  have hP : pairL p q = [moveI (n + 1) 0] ++ p ++ [moveI (n + 2) 0] ++ [moveI 0 (n + 1)] ++ cleanP q ++ [consI 0 (n + 2) 0] := by unfold pairL; simp [hn]
  refine ⟨seg_one (seg_at (a := []) (l := [_]) (b := p ++ [moveI (n + 2) 0] ++ [moveI 0 (n + 1)] ++ cleanP q ++ [consI 0 (n + 2) 0]) (by simp [hP]) rfl), seg_at (a := [moveI (n + 1) 0]) (b := [moveI (n + 2) 0] ++ [moveI 0 (n + 1)] ++ cleanP q ++ [consI 0 (n + 2) 0]) (by simp [hP]) rfl,
    seg_one (seg_at (a := [moveI (n + 1) 0] ++ p) (l := [_]) (b := [moveI 0 (n + 1)] ++ cleanP q ++ [consI 0 (n + 2) 0]) (by simp [hP]) (by simp; omega)), seg_one (seg_at (a := [moveI (n + 1) 0] ++ p ++ [moveI (n + 2) 0]) (l := [_]) (b := cleanP q ++ [consI 0 (n + 2) 0]) (by simp [hP]) (by simp; omega)),
    seg_at (a := [moveI (n + 1) 0] ++ p ++ [moveI (n + 2) 0] ++ [moveI 0 (n + 1)]) (b := [consI 0 (n + 2) 0]) (by simp [hP]) (by simp; omega), seg_one (seg_at (a := [moveI (n + 1) 0] ++ p ++ [moveI (n + 2) 0] ++ [moveI 0 (n + 1)] ++ cleanP q) (l := [_]) (b := []) (by simp [hP]) (by simp; omega)), ?_⟩
  rw [hP]; simp; omega
structure SegsI (P c p q : List Ins) (n : Nat) : Prop where
  m0 : P[0]? = some (moveI (n + 1) 0)
  s0 : Seg P 1 c
  m1 : P[1 + c.length]? = some (jumpI 0 ((cleanP q).length + 4))
  m2 : P[1 + c.length + 1]? = some (moveI 0 (n + 1))
  s1 : Seg P (1 + c.length + 1 + 1) (cleanP q)
  m3 : P[1 + c.length + 1 + 1 + (cleanP q).length]? = some (setI (n + 1) ⟨#[49, 48, 48]⟩)
  m4 : P[1 + c.length + 1 + 1 + (cleanP q).length + 1]? = some (jumpI (n + 1) ((cleanP p).length + 2))
  m5 : P[1 + c.length + 1 + 1 + (cleanP q).length + 2]? = some (moveI 0 (n + 1))
  s2 : Seg P (1 + c.length + 1 + 1 + (cleanP q).length + 2 + 1) (cleanP p)
  len : P.length = 1 + c.length + 1 + 1 + (cleanP q).length + 2 + 1 + (cleanP p).length
theorem if_segs (c p q : List Ins) (n : Nat) (hn : max (regN c) (max (regN p) (regN q)) = n + 1) : SegsI (ifL c p q) c p q n := by
  have hP : ifL c p q = [moveI (n + 1) 0] ++ c ++ [jumpI 0 ((cleanP q).length + 4)] ++ [moveI 0 (n + 1)] ++ cleanP q ++ [setI (n + 1) ⟨#[49, 48, 48]⟩] ++ [jumpI (n + 1) ((cleanP p).length + 2)] ++ [moveI 0 (n + 1)] ++ cleanP p := by unfold ifL; simp [hn]
  refine ⟨seg_one (seg_at (a := []) (l := [_]) (b := c ++ [jumpI 0 ((cleanP q).length + 4)] ++ [moveI 0 (n + 1)] ++ cleanP q ++ [setI (n + 1) ⟨#[49, 48, 48]⟩] ++ [jumpI (n + 1) ((cleanP p).length + 2)] ++ [moveI 0 (n + 1)] ++ cleanP p) (by simp [hP]) rfl),
    seg_at (a := [moveI (n + 1) 0]) (b := [jumpI 0 ((cleanP q).length + 4)] ++ [moveI 0 (n + 1)] ++ cleanP q ++ [setI (n + 1) ⟨#[49, 48, 48]⟩] ++ [jumpI (n + 1) ((cleanP p).length + 2)] ++ [moveI 0 (n + 1)] ++ cleanP p) (by simp [hP]) rfl,
    seg_one (seg_at (a := [moveI (n + 1) 0] ++ c) (l := [_]) (b := [moveI 0 (n + 1)] ++ cleanP q ++ [setI (n + 1) ⟨#[49, 48, 48]⟩] ++ [jumpI (n + 1) ((cleanP p).length + 2)] ++ [moveI 0 (n + 1)] ++ cleanP p) (by simp [hP]) (by simp; omega)),
    seg_one (seg_at (a := [moveI (n + 1) 0] ++ c ++ [jumpI 0 ((cleanP q).length + 4)]) (l := [_]) (b := cleanP q ++ [setI (n + 1) ⟨#[49, 48, 48]⟩] ++ [jumpI (n + 1) ((cleanP p).length + 2)] ++ [moveI 0 (n + 1)] ++ cleanP p) (by simp [hP]) (by simp; omega)),
    seg_at (a := [moveI (n + 1) 0] ++ c ++ [jumpI 0 ((cleanP q).length + 4)] ++ [moveI 0 (n + 1)]) (b := [setI (n + 1) ⟨#[49, 48, 48]⟩] ++ [jumpI (n + 1) ((cleanP p).length + 2)] ++ [moveI 0 (n + 1)] ++ cleanP p) (by simp [hP]) (by simp; omega),
    seg_one (seg_at (a := [moveI (n + 1) 0] ++ c ++ [jumpI 0 ((cleanP q).length + 4)] ++ [moveI 0 (n + 1)] ++ cleanP q) (l := [_]) (b := [jumpI (n + 1) ((cleanP p).length + 2)] ++ [moveI 0 (n + 1)] ++ cleanP p) (by simp [hP]) (by simp; omega)),
    seg_one (seg_at (a := [moveI (n + 1) 0] ++ c ++ [jumpI 0 ((cleanP q).length + 4)] ++ [moveI 0 (n + 1)] ++ cleanP q ++ [setI (n + 1) ⟨#[49, 48, 48]⟩]) (l := [_]) (b := [moveI 0 (n + 1)] ++ cleanP p) (by simp [hP]) (by simp; omega)),
    seg_one (seg_at (a := [moveI (n + 1) 0] ++ c ++ [jumpI 0 ((cleanP q).length + 4)] ++ [moveI 0 (n + 1)] ++ cleanP q ++ [setI (n + 1) ⟨#[49, 48, 48]⟩] ++ [jumpI (n + 1) ((cleanP p).length + 2)]) (l := [_]) (b := cleanP p) (by simp [hP]) (by simp; omega)),
    seg_at (a := [moveI (n + 1) 0] ++ c ++ [jumpI 0 ((cleanP q).length + 4)] ++ [moveI 0 (n + 1)] ++ cleanP q ++ [setI (n + 1) ⟨#[49, 48, 48]⟩] ++ [jumpI (n + 1) ((cleanP p).length + 2)] ++ [moveI 0 (n + 1)]) (b := []) (by simp [hP]) (by simp; omega), ?_⟩
  rw [hP]; simp; omega
structure SegsW (P c p : List Ins) (n : Nat) : Prop where
  m0 : P[0]? = some (moveI (n + 1) 0)
  s0 : Seg P 1 (cleanP c)
  m1 : P[1 + (cleanP c).length]? = some (jumpI 0 4)
  m2 : P[1 + (cleanP c).length + 1]? = some (moveI 0 (n + 1))
  m3 : P[1 + (cleanP c).length + 2]? = some (setI (n + 1) ⟨#[49, 48, 48]⟩)
  m4 : P[1 + (cleanP c).length + 3]? = some (jumpI (n + 1) ((cleanP p).length + 4))
  m5 : P[1 + (cleanP c).length + 4]? = some (moveI 0 (n + 1))
  s1 : Seg P (1 + (cleanP c).length + 5) (cleanP p)
  m6 : P[1 + (cleanP c).length + 5 + (cleanP p).length]? = some (setI (n + 1) ⟨#[49, 48, 48]⟩)
  m7 : P[1 + (cleanP c).length + 5 + (cleanP p).length + 1]? = some (jumpI (n + 1) (-(((cleanP c).length + (cleanP p).length + 7 : Nat) : Int)))
  len : P.length = (cleanP c).length + (cleanP p).length + 8
theorem while_segs (c p : List Ins) (n : Nat) (hn : max (regN c) (regN p) = n + 1) : SegsW (whileL c p) c p n := by
  have hl0 : (whileH c p).length = (cleanP c).length + (cleanP p).length + 7 := by unfold whileH; simp; omega
  have hP : whileL c p = [moveI (n + 1) 0] ++ cleanP c ++ [jumpI 0 4] ++ [moveI 0 (n + 1)] ++ [setI (n + 1) ⟨#[49, 48, 48]⟩] ++ [jumpI (n + 1) ((cleanP p).length + 4)] ++ [moveI 0 (n + 1)] ++ cleanP p ++ [setI (n + 1) ⟨#[49, 48, 48]⟩] ++ [jumpI (n + 1) (-(((cleanP c).length + (cleanP p).length + 7 : Nat) : Int))] := by
    unfold whileL; rw [hl0, hn]; unfold whileH; simp [hn]
  refine ⟨?_, ?_, ?_, ?_, ?_, ?_, ?_, ?_, ?_, ?_, ?_⟩
  · exact seg_one (seg_at (a := []) (l := [_]) (b := cleanP c ++ [jumpI 0 4] ++ [moveI 0 (n + 1)] ++ [setI (n + 1) ⟨#[49, 48, 48]⟩] ++ [jumpI (n + 1) ((cleanP p).length + 4)] ++ [moveI 0 (n + 1)] ++ cleanP p ++ [setI (n + 1) ⟨#[49, 48, 48]⟩] ++ [jumpI (n + 1) (-(((cleanP c).length + (cleanP p).length + 7 : Nat) : Int))]) (by simp [hP]) rfl)
  · exact seg_at (a := [moveI (n + 1) 0]) (b := [jumpI 0 4] ++ [moveI 0 (n + 1)] ++ [setI (n + 1) ⟨#[49, 48, 48]⟩] ++ [jumpI (n + 1) ((cleanP p).length + 4)] ++ [moveI 0 (n + 1)] ++ cleanP p ++ [setI (n + 1) ⟨#[49, 48, 48]⟩] ++ [jumpI (n + 1) (-(((cleanP c).length + (cleanP p).length + 7 : Nat) : Int))]) (by simp [hP]) rfl
  · exact seg_one (seg_at (a := [moveI (n + 1) 0] ++ cleanP c) (l := [_]) (b := [moveI 0 (n + 1)] ++ [setI (n + 1) ⟨#[49, 48, 48]⟩] ++ [jumpI (n + 1) ((cleanP p).length + 4)] ++ [moveI 0 (n + 1)] ++ cleanP p ++ [setI (n + 1) ⟨#[49, 48, 48]⟩] ++ [jumpI (n + 1) (-(((cleanP c).length + (cleanP p).length + 7 : Nat) : Int))]) (by simp [hP]) (by simp; omega))
  · exact seg_one (seg_at (a := [moveI (n + 1) 0] ++ cleanP c ++ [jumpI 0 4]) (l := [_]) (b := [setI (n + 1) ⟨#[49, 48, 48]⟩] ++ [jumpI (n + 1) ((cleanP p).length + 4)] ++ [moveI 0 (n + 1)] ++ cleanP p ++ [setI (n + 1) ⟨#[49, 48, 48]⟩] ++ [jumpI (n + 1) (-(((cleanP c).length + (cleanP p).length + 7 : Nat) : Int))]) (by simp [hP]) (by simp; omega))
  · exact seg_one (seg_at (a := [moveI (n + 1) 0] ++ cleanP c ++ [jumpI 0 4] ++ [moveI 0 (n + 1)]) (l := [_]) (b := [jumpI (n + 1) ((cleanP p).length + 4)] ++ [moveI 0 (n + 1)] ++ cleanP p ++ [setI (n + 1) ⟨#[49, 48, 48]⟩] ++ [jumpI (n + 1) (-(((cleanP c).length + (cleanP p).length + 7 : Nat) : Int))]) (by simp [hP]) (by simp; omega))
  · exact seg_one (seg_at (a := [moveI (n + 1) 0] ++ cleanP c ++ [jumpI 0 4] ++ [moveI 0 (n + 1)] ++ [setI (n + 1) ⟨#[49, 48, 48]⟩]) (l := [_]) (b := [moveI 0 (n + 1)] ++ cleanP p ++ [setI (n + 1) ⟨#[49, 48, 48]⟩] ++ [jumpI (n + 1) (-(((cleanP c).length + (cleanP p).length + 7 : Nat) : Int))]) (by simp [hP]) (by simp; omega))
  · exact seg_one (seg_at (a := [moveI (n + 1) 0] ++ cleanP c ++ [jumpI 0 4] ++ [moveI 0 (n + 1)] ++ [setI (n + 1) ⟨#[49, 48, 48]⟩] ++ [jumpI (n + 1) ((cleanP p).length + 4)]) (l := [_]) (b := cleanP p ++ [setI (n + 1) ⟨#[49, 48, 48]⟩] ++ [jumpI (n + 1) (-(((cleanP c).length + (cleanP p).length + 7 : Nat) : Int))]) (by simp [hP]) (by simp; omega))
  · exact seg_at (a := [moveI (n + 1) 0] ++ cleanP c ++ [jumpI 0 4] ++ [moveI 0 (n + 1)] ++ [setI (n + 1) ⟨#[49, 48, 48]⟩] ++ [jumpI (n + 1) ((cleanP p).length + 4)] ++ [moveI 0 (n + 1)]) (b := [setI (n + 1) ⟨#[49, 48, 48]⟩] ++ [jumpI (n + 1) (-(((cleanP c).length + (cleanP p).length + 7 : Nat) : Int))]) (by simp [hP]) (by simp; omega)
  · exact seg_one (seg_at (a := [moveI (n + 1) 0] ++ cleanP c ++ [jumpI 0 4] ++ [moveI 0 (n + 1)] ++ [setI (n + 1) ⟨#[49, 48, 48]⟩] ++ [jumpI (n + 1) ((cleanP p).length + 4)] ++ [moveI 0 (n + 1)] ++ cleanP p) (l := [_]) (b := [jumpI (n + 1) (-(((cleanP c).length + (cleanP p).length + 7 : Nat) : Int))]) (by simp [hP]) (by simp; omega))
  · exact seg_one (seg_at (a := [moveI (n + 1) 0] ++ cleanP c ++ [jumpI 0 4] ++ [moveI 0 (n + 1)] ++ [setI (n + 1) ⟨#[49, 48, 48]⟩] ++ [jumpI (n + 1) ((cleanP p).length + 4)] ++ [moveI 0 (n + 1)] ++ cleanP p ++ [setI (n + 1) ⟨#[49, 48, 48]⟩]) (l := [_]) (b := []) (by simp [hP]) (by simp; omega))
  · unfold whileL; simp [hl0]
theorem dueF_zero {ls : List (List Ins)} (h : dueF ls [] = 0) : allV ls = true ∧ mostR ls ≤ 28 := by
  unfold dueF at h
  cases hv : allV ls with
  | false => rw [if_pos hv] at h; cases h
  | true =>
    rw [if_neg (by rw [hv]; simp)] at h
    by_cases h2 : 28 < mostR ls
    · rw [if_pos h2] at h; cases h
    · exact ⟨rfl, by omega⟩
theorem dueN_03 {ls : List (List Ins)} (m : List Ins) (hv : allV ls = true) (hm : mostR ls ≤ 28) : (dueN ls m = 0 ∧ validB m = true) ∨ dueN ls m = 3 := by
  unfold dueN
  rw [if_neg (by rw [hv]; simp), if_neg (by omega)]
  by_cases h : validB m = true
  · rw [if_pos h]; exact .inl ⟨rfl, h⟩
  · rw [if_neg h]; exact .inr rfl
theorem made_d {f : Nat} {args : Array Value} {w : World} {ls : List (List Ins)} {m : List Ins} {d : Int} (hd : dueN ls m = d) (h : Calls Try.prog f args w (MadeOut w (dueN ls m) m)) : Calls Try.prog f args w fun e w' => ∃ v, e = .returned (.tuple #[v, .int .i64 d]) ∧ TB w' w'.heap.size d m v ∧ Below w.heap.size w w' := by
  rw [hd] at h; exact made_tb h
end Go.Proofs.Ytdjbcmfjlfkcjaa


/- Plain: the programs of the laws of narcissuslaw03. And programs that are written out. -/
import Derived.Test.YtaiomcjopgnfpaaRunA
import Derived.Test.YtaiomcjopgnfpaaRef3A
namespace Go.Proofs.Ytaiomcjopgnfpaa
open Go.RowKit

theorem InsRow.new {w : World} {T : Nat} (l : List Ins) (hwf : ∀ x ∈ l, x.wf) (hlen : l.length ≤ 4000) : InsRow (w.alloc (.cells (inscells l).toArray T)) (w.alloc (.cells (inscells l).toArray T)).heap.size (.slice (some ⟨w.heap.size, 0, none⟩) l.length l.length) l := by
  refine ⟨hwf, by omega, .inr ⟨w.heap.size, 0, l.length, rfl, by simp, fun j x hj k u hk => ?_⟩⟩
  rw [(block_cells (heap_alloc_new w _)).1, List.getElem?_toArray, Nat.zero_add]
  exact inscells_get l j x hj k u hk
theorem wf_lit (op a b c : Int) (s : ByteArray) (h1 : i64 op) (h2 : i64 a) (h3 : i64 b) (h4 : i64 c) (h5 : s.size ≤ 140737488355328) : (⟨op, a, b, c, s⟩ : Ins).wf := ⟨h1, h2, h3, h4, h5⟩

/-- A state in which a step changes nothing. -/
theorem goF_loop {l : List Ins} {s : St} (hp : s.pos ≠ l.length) (hs : stepP l s = some s) : ∀ f n, ∃ m, goF l f n s = .fuel s m := by
  intro f
  induction f with
  | zero => intro n; exact ⟨n, goF_zero hp⟩
  | succ f ih => intro n; rw [goF_step hp hs]; exact ih _

/-- The program that doubles register 0 again and again. -/
def dblP : List Ins := [⟨2, 0, 0, 0, ⟨#[]⟩⟩, ⟨5, 0, -1, 0, ⟨#[]⟩⟩]
def dblT (t : Tr) : Nat → Tr
  | 0 => t
  | k + 1 => .pair (dblT t k) (dblT t k)
theorem dblT_size (t : Tr) (k : Nat) : (dblT t k).size + 1 = 2 ^ k * (t.size + 1) := by
  induction k with
  | zero => simp [dblT]
  | succ k ih => simp only [dblT, Tr.size]; rw [Nat.pow_succ, Nat.mul_right_comm]; omega
theorem dblT_mono (t : Tr) (j k : Nat) (h : j ≤ k) : (dblT t j).size ≤ (dblT t k).size := by
  have h1 := dblT_size t j
  have h2 := dblT_size t k
  have h3 : 2 ^ j ≤ 2 ^ k := Nat.pow_le_pow_right (by omega) h
  have h4 := Nat.mul_le_mul_right (t.size + 1) h3
  omega
theorem dblT_comm (t : Tr) (k : Nat) : dblT (.pair t t) k = dblT t (k + 1) := by
  induction k with
  | zero => rfl
  | succ k ih => simp only [dblT] at *; rw [ih]
theorem stepX_cons {x : Ins} {s : St} (h2 : x.op = 2) (h : (Tr.pair (getR s.regs x.b) (getR s.regs x.c)).size ≤ 2000000) : stepX x s = some ⟨s.pos + 1, setR s.regs x.a (.pair (getR s.regs x.b) (getR s.regs x.c))⟩ := by
  unfold stepX
  rw [if_neg (by omega), if_neg (by omega), if_pos h2, if_pos h]
theorem stepX_big {x : Ins} {s : St} (h2 : x.op = 2) (h : 2000000 < (Tr.pair (getR s.regs x.b) (getR s.regs x.c)).size) : stepX x s = none := by
  unfold stepX
  rw [if_neg (by omega), if_neg (by omega), if_pos h2, if_neg (by omega)]
theorem stepX_go {x : Ins} {s : St} (h2 : x.op = 5) (h : getR s.regs x.a ≠ .nil) : stepX x s = some ⟨(s.pos + x.b).toNat, s.regs⟩ := by
  unfold stepX
  rw [if_neg (by omega), if_neg (by omega), if_neg (by omega), if_neg (by omega), if_neg (by omega), if_neg h]
theorem dbl_cons (t : Tr) (rs : List Tr) (h : (Tr.pair t t).size ≤ 2000000) : stepP dblP ⟨0, t :: rs⟩ = some ⟨1, .pair t t :: rs⟩ :=
  stepX_cons (x := ⟨2, 0, 0, 0, ⟨#[]⟩⟩) (s := ⟨0, t :: rs⟩) rfl h
theorem dbl_big (t : Tr) (rs : List Tr) (h : 2000000 < (Tr.pair t t).size) : stepP dblP ⟨0, t :: rs⟩ = none :=
  stepX_big (x := ⟨2, 0, 0, 0, ⟨#[]⟩⟩) (s := ⟨0, t :: rs⟩) rfl h
theorem dbl_jump (a b : Tr) (rs : List Tr) : stepP dblP ⟨1, .pair a b :: rs⟩ = some ⟨0, .pair a b :: rs⟩ :=
  stepX_go (x := ⟨5, 0, -1, 0, ⟨#[]⟩⟩) (s := ⟨1, .pair a b :: rs⟩) rfl (by show Tr.pair a b ≠ .nil; exact fun h => by cases h)
theorem dbl_run (rs : List Tr) : ∀ (k f n : Nat) (t : Tr), (dblT t k).size ≤ 2000000 → goF dblP (f + 2 * k) n ⟨0, t :: rs⟩ = goF dblP f (n + 2 * k) ⟨0, dblT t k :: rs⟩ := by
  intro k
  induction k with
  | zero => intro f n t _; rfl
  | succ k ih =>
    intro f n t h
    have h1 : (Tr.pair t t).size ≤ 2000000 := Nat.le_trans (dblT_mono t 1 (k + 1) (by omega)) h
    rw [show f + 2 * (k + 1) = (f + 2 * k) + 1 + 1 by omega, goF_step (by simp [dblP]) (dbl_cons t rs h1), goF_step (by simp [dblP]) (dbl_jump t t rs), ih _ _ _ (by rw [dblT_comm]; exact h), dblT_comm, show n + 1 + 1 + 2 * k = n + 2 * (k + 1) by omega]
theorem dbl_valid : validB dblP = true := by decide +kernel
theorem dbl_aw : (goF dblP 1000 0 (startS .nil)).run = (⟨#[]⟩, 0, 3) := by
  have h1 := dblT_size .nil 19
  have h2 := dblT_size .nil 20
  have h3 := dbl_run (List.replicate 31 .nil) 19 962 0 .nil (by simp only [Tr.size] at h1; omega)
  have h4 : goF dblP 1000 0 (startS .nil) = .big := by
    refine h3.trans (goF_big (by decide) (dbl_big _ _ ?_))
    show 2000000 < (dblT .nil 20).size
    simp only [Tr.size] at h2; omega
  rw [h4]; rfl

def awA : List Ins := [⟨4, 0, 0, 0, ⟨#[]⟩⟩]
def awB : List Ins := [⟨0, 1, 0, 0, ⟨#[49, 48, 48]⟩⟩, ⟨5, 1, 0, 0, ⟨#[]⟩⟩]
theorem awA_run : (goF awA 10 0 (startS (.pair .nil (.pair .nil .nil)))).run = (⟨#[49, 48, 48]⟩, 1, 0) := by rfl
theorem awN_run : (goF [] 0 0 (startS (.pair .nil .nil))).run = (⟨#[49, 48, 48]⟩, 0, 0) := by rfl
theorem awB_run : (goF awB 1000 0 (startS .nil)).run = (⟨#[]⟩, 0, 7) := by
  have h1 : stepP awB (startS .nil) = some ⟨1, .nil :: .pair .nil .nil :: List.replicate 30 .nil⟩ := by rfl
  have h2 : stepP awB ⟨1, .nil :: .pair .nil .nil :: List.replicate 30 .nil⟩ = some ⟨1, .nil :: .pair .nil .nil :: List.replicate 30 .nil⟩ := by rfl
  obtain ⟨m, hm⟩ := goF_loop (l := awB) (by decide) h2 999 1
  rw [show (1000 : Nat) = 999 + 1 from rfl, goF_step (by decide) h1, hm]; rfl
theorem awA_valid : validB awA = true := by decide +kernel
theorem awN_valid : validB [] = true := by decide
theorem awB_valid : validB awB = true := by decide +kernel

end Go.Proofs.Ytaiomcjopgnfpaa

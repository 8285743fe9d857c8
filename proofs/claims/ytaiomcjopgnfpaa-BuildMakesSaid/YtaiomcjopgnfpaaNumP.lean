/- Plain: numbers as trees, forests from the right, depth. No program in sight. -/
import Derived.Test.YtaiomcjopgnfpaaTree
import Derived.Lib.Repeat
namespace Go.Proofs.Ytaiomcjopgnfpaa

/-- A number as a tree. -/
def Tr.num : Nat → Tr | 0 => .nil | n + 1 => .pair .nil (Tr.num n)
def rep10 (n : Nat) : List UInt8 := Lib.repeatL [49, 48] n
theorem rep10_succ (n : Nat) : rep10 (n + 1) = rep10 n ++ [49, 48] := by
  induction n with
  | zero => rfl
  | succ n ih => show [49, 48] ++ rep10 (n + 1) = [49, 48] ++ rep10 n ++ [49, 48]; rw [ih, List.append_assoc]
theorem rep10_length (n : Nat) : (rep10 n).length = 2 * n := by unfold rep10; rw [Lib.repeatL_length]; simp; omega
theorem enc_num (n : Nat) : (Tr.num n).enc = rep10 n ++ [48] := by
  induction n with
  | zero => rfl
  | succ n ih => simp only [Tr.num, Tr.enc, ih]; rfl
theorem size_num (n : Nat) : (Tr.num n).size = 2 * n + 1 := by rw [← Tr.enc_length, enc_num]; simp [rep10_length]

theorem enc_cons (t : Tr) : ∃ c l, t.enc = c :: l ∧ (c = 48 ∧ t = .nil ∧ l = [] ∨ c = 49 ∧ ∃ a b, t = .pair a b ∧ l = a.enc ++ b.enc) := by
  cases t with
  | nil => exact ⟨48, [], rfl, .inl ⟨rfl, rfl, rfl⟩⟩
  | pair a b => exact ⟨49, _, rfl, .inr ⟨rfl, a, b, rfl, rfl⟩⟩

/-- What begins with '10' n times and has one character more is the number n. -/
theorem num_of_rep (n : Nat) : ∀ (t : Tr) (c : UInt8), t.enc = rep10 n ++ [c] → t = .num n := by
  induction n with
  | zero =>
    intro t c h
    obtain ⟨d, l, h1, h2⟩ := enc_cons t
    rcases h2 with ⟨_, rfl, _⟩ | ⟨_, a, b, rfl, h3⟩
    · rfl
    · have h4 := congrArg List.length h
      have := a.size_pos
      have := b.size_pos
      simp [Tr.enc, rep10, Lib.repeatL, Tr.enc_length] at h4; omega
  | succ n ih =>
    intro t c h
    have h' : t.enc = 49 :: 48 :: (rep10 n ++ [c]) := h
    obtain ⟨d, l, h1, h2⟩ := enc_cons t
    rcases h2 with ⟨rfl, rfl, rfl⟩ | ⟨rfl, a, b, rfl, h3⟩
    · simp [Tr.enc] at h'
    · simp only [Tr.enc, List.cons.injEq, true_and] at h'
      obtain ⟨d2, l2, h4, h5⟩ := enc_cons a
      rcases h5 with ⟨rfl, rfl, rfl⟩ | ⟨rfl, a1, b1, rfl, h6⟩
      · simp only [Tr.enc, List.cons_append, List.nil_append, List.cons.injEq, true_and] at h'
        rw [ih b c h']; rfl
      · rw [h4] at h'; simp at h'

theorem enc_inj_app (t : Tr) : ∀ (u : Tr) (l m : List UInt8), t.enc ++ l = u.enc ++ m → t = u ∧ l = m := by
  induction t with
  | nil =>
    intro u l m h
    cases u with
    | nil => simpa [Tr.enc] using h
    | pair a b => simp [Tr.enc] at h
  | pair a b iha ihb =>
    intro u l m h
    cases u with
    | nil => simp [Tr.enc] at h
    | pair c d =>
      simp only [Tr.enc, List.cons_append, List.append_assoc, List.cons.injEq, true_and] at h
      obtain ⟨rfl, h2⟩ := iha _ _ _ h
      obtain ⟨rfl, h3⟩ := ihb _ _ _ h2
      exact ⟨rfl, h3⟩
theorem enc_inj {t u : Tr} (h : t.enc = u.enc) : t = u := (enc_inj_app t u [] [] (by rw [h])).1

/-- The trees of which a string is the row, read from the right. -/
def pf : List UInt8 → Option (List Tr)
  | [] => some []
  | c :: l => match pf l with
    | none => none
    | some ts => if c = 48 then some (.nil :: ts) else if c = 49 then (match ts with | a :: b :: r => some (.pair a b :: r) | _ => none) else none
theorem pf_48 {l : List UInt8} {ts : List Tr} (h : pf l = some ts) : pf (48 :: l) = some (.nil :: ts) := by simp [pf, h]
theorem pf_49 {l : List UInt8} {a b : Tr} {ts : List Tr} (h : pf l = some (a :: b :: ts)) : pf (49 :: l) = some (.pair a b :: ts) := by simp [pf, h]
theorem pf_none {l : List UInt8} (c : UInt8) (h : pf l = none) : pf (c :: l) = none := by simp [pf, h]
theorem pf_49_few {l : List UInt8} {ts : List Tr} (h : pf l = some ts) (hl : ts.length < 2) : pf (49 :: l) = none := by
  match ts, hl with
  | [], _ => simp [pf, h]
  | [a], _ => simp [pf, h]
theorem pf_else {l : List UInt8} {c : UInt8} (h8 : c ≠ 48) (h9 : c ≠ 49) : pf (c :: l) = none := by
  cases h : pf l <;> simp [pf, h, h8, h9]
theorem pf_enc (t : Tr) : ∀ l, pf (t.enc ++ l) = (pf l).map (t :: ·) := by
  induction t with
  | nil => intro l; cases h : pf l <;> simp [Tr.enc, pf, h]
  | pair a b iha ihb =>
    intro l
    cases h : pf l with
    | none => simp only [Tr.enc, List.cons_append, List.append_assoc]; rw [pf_none]; rfl; rw [iha, ihb, h]; rfl
    | some ts => simp only [Tr.enc, List.cons_append, List.append_assoc]; rw [pf_49 (a := a) (b := b) (ts := ts)]; rfl; rw [iha, ihb, h]; rfl
theorem pf_one (t : Tr) : pf t.enc = some [t] := by have := pf_enc t []; simpa [pf] using this
theorem pf_flat (l : List UInt8) : ∀ ts, pf l = some ts → l = (ts.map Tr.enc).flatten := by
  induction l with
  | nil => intro ts h; simp [pf] at h; subst h; rfl
  | cons c l ih =>
    intro ts h
    cases hl : pf l with
    | none => simp [pf, hl] at h
    | some us =>
      have e := ih us hl
      by_cases h8 : c = 48
      · subst h8; rw [pf_48 hl] at h; cases h; simp [Tr.enc, ← e]
      · by_cases h9 : c = 49
        · subst h9
          match us, hl, e with
          | a :: b :: r, hl, e => rw [pf_49 hl] at h; cases h; simp [Tr.enc, e]
          | [], hl, e => rw [pf_49_few hl (by simp)] at h; cases h
          | [a], hl, e => rw [pf_49_few hl (by simp)] at h; cases h
        · rw [pf_else h8 h9] at h; cases h
theorem pf_drop (l : List UInt8) (ts : List Tr) (h : pf l = some ts) : ∀ i, ∃ us, pf (l.drop i) = some us := by
  intro i
  induction l generalizing ts i with
  | nil => exact ⟨[], by simp [pf]⟩
  | cons c l ih =>
    cases i with
    | zero => exact ⟨ts, h⟩
    | succ i =>
      cases hl : pf l with
      | none => simp [pf, hl] at h
      | some us => simpa using ih us hl i
/-- How many trees a string's end may be. -/
theorem pf_length (l : List UInt8) : ∀ ts, pf l = some ts → ts.length ≤ l.length := by
  induction l with
  | nil => intro ts h; simp [pf] at h; subst h; simp
  | cons c l ih =>
    intro ts h
    cases hl : pf l with
    | none => simp [pf, hl] at h
    | some us =>
      have e := ih us hl
      by_cases h8 : c = 48
      · subst h8; rw [pf_48 hl] at h; cases h; simp; omega
      · by_cases h9 : c = 49
        · subst h9
          match us, hl, e with
          | a :: b :: r, hl, e => rw [pf_49 hl] at h; cases h; simp at e ⊢; omega
          | [], hl, e => rw [pf_49_few hl (by simp)] at h; cases h
          | [a], hl, e => rw [pf_49_few hl (by simp)] at h; cases h
        · rw [pf_else h8 h9] at h; cases h

/-- The depth of a tree. -/
def Tr.depth : Tr → Nat | .nil => 0 | .pair a b => 1 + max a.depth b.depth
theorem Tr.depth_le (t : Tr) : t.depth ≤ t.size := by
  induction t with
  | nil => simp [depth]
  | pair a b iha ihb => simp only [depth, size]; omega

end Go.Proofs.Ytaiomcjopgnfpaa

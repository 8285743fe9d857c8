/- Trees as lists of bytes: the plain part. No program in sight. -/
namespace Go.Proofs.Ytaiomcjopgnfpaa

/-- Trees. -/
inductive Tr where
  | nil
  | pair (h t : Tr)
  deriving DecidableEq, Inhabited

namespace Tr
/-- The characters of a tree. -/
def enc : Tr → List UInt8
  | nil => [48]
  | pair h t => 49 :: (enc h ++ enc t)
def size : Tr → Nat
  | nil => 1
  | pair h t => 1 + size h + size t
theorem enc_length (t : Tr) : t.enc.length = t.size := by
  induction t with
  | nil => rfl
  | pair h t ih1 ih2 => simp [enc, size, ih1, ih2]; omega
theorem size_pos (t : Tr) : 1 ≤ t.size := by cases t <;> simp [size] <;> omega
end Tr

/-- How many bytes the next 'open' trees take; none: they do not end. -/
def endF : List UInt8 → Nat → Option Nat
  | _, 0 => some 0
  | [], _ + 1 => none
  | c :: l, o + 1 => if c = 49 then (endF l (o + 2)).map (· + 1) else if c = 48 then (endF l o).map (· + 1) else none

theorem endF_le (l : List UInt8) : ∀ o k, endF l o = some k → k ≤ l.length := by
  induction l with
  | nil => intro o k h; cases o <;> simp [endF] at h; omega
  | cons c l ih =>
    intro o k h
    cases o with
    | zero => simp [endF] at h; omega
    | succ o =>
      simp only [endF] at h
      split at h
      · cases e : endF l (o + 2) with
        | none => simp [e] at h
        | some j => simp [e] at h; have := ih _ _ e; simp; omega
      · split at h
        · cases e : endF l o with
          | none => simp [e] at h
          | some j => simp [e] at h; have := ih _ _ e; simp; omega
        · simp at h

theorem endF_enc (t : Tr) : ∀ (l : List UInt8) (o : Nat), endF (t.enc ++ l) (o + 1) = (endF l o).map (· + t.size) := by
  induction t with
  | nil => intro l o; simp [Tr.enc, endF, Tr.size]
  | pair h t ih1 ih2 =>
    intro l o
    have e : endF (h.enc ++ (t.enc ++ l)) (o + 2) = (endF (t.enc ++ l) (o + 1)).map (· + h.size) := ih1 _ _
    simp only [Tr.enc, List.cons_append, List.append_assoc, endF, if_true, e, ih2, Tr.size]
    cases endF l o <;> simp; omega

/-- What ends is a row of trees. -/
theorem endF_trees (l : List UInt8) : ∀ o k, endF l o = some k → ∃ ts : List Tr, ts.length = o ∧ l.take k = (ts.map Tr.enc).flatten := by
  induction l with
  | nil => intro o k h; cases o <;> simp [endF] at h; subst h; exact ⟨[], rfl, rfl⟩
  | cons c l ih =>
    intro o k h
    cases o with
    | zero => simp [endF] at h; subst h; exact ⟨[], rfl, rfl⟩
    | succ o =>
      simp only [endF] at h
      split at h
      · rename_i hc
        cases e : endF l (o + 2) with
        | none => simp [e] at h
        | some j =>
          simp [e] at h; subst h
          obtain ⟨ts, hl, ht⟩ := ih _ _ e
          match ts, hl with
          | a :: b :: ts, hl =>
            refine ⟨.pair a b :: ts, by simpa using hl, ?_⟩
            simp [ht, Tr.enc, hc]
      · split at h
        · rename_i hc
          cases e : endF l o with
          | none => simp [e] at h
          | some j =>
            simp [e] at h; subst h
            obtain ⟨ts, hl, ht⟩ := ih _ _ e
            exact ⟨.nil :: ts, by simpa using hl, by simp [ht, Tr.enc, hc]⟩
        · simp at h

theorem endF_one {l : List UInt8} {k : Nat} (h : endF l 1 = some k) : ∃ t : Tr, l.take k = t.enc ∧ k = t.size := by
  obtain ⟨ts, hl, ht⟩ := endF_trees l 1 k h
  match ts, hl with
  | [t], _ =>
    refine ⟨t, by simpa using ht, ?_⟩
    have h1 := congrArg List.length ht
    have h2 := endF_le _ _ _ h
    simp [Tr.enc_length] at h1
    omega

end Go.Proofs.Ytaiomcjopgnfpaa

/- What a tree is the code of, in plain words. -/
import Derived.Test.YtlaeljkjdfffjaaMB3
namespace Go.Proofs.Ytlaeljkjdfffjaa
open Go.RowKit

/-- The instruction of an operation, a register and the rest. -/
def decB (n q : Nat) (r : Tr) : Option Ins :=
  match n with
  | 0 => some ⟨0, q, 0, 0, TS r⟩
  | 1 => if r.isNum then some ⟨1, q, r.pairs, 0, ⟨#[]⟩⟩ else none
  | 2 => match r with
    | .pair b c => if b.isNum && c.isNum then some ⟨2, q, b.pairs, c.pairs, ⟨#[]⟩⟩ else none
    | .nil => none
  | 3 => if r.isNum then some ⟨3, q, r.pairs, 0, ⟨#[]⟩⟩ else none
  | 4 => if r.isNum then some ⟨4, q, r.pairs, 0, ⟨#[]⟩⟩ else none
  | 5 => match r with
    | .pair .nil b => if b.isNum then some ⟨5, q, b.pairs, 0, ⟨#[]⟩⟩ else none
    | .pair (.pair .nil .nil) b => if b.isNum && decide (0 < b.pairs) then some ⟨5, q, -(b.pairs : Int), 0, ⟨#[]⟩⟩ else none
    | _ => none
  | _ => none
/-- The instruction that a tree is the code of. -/
def decI : Tr → Option Ins
  | .pair o (.pair a r) => if o.isNum && a.isNum then decB o.pairs a.pairs r else none
  | _ => none
theorem decI_eq (o a r : Tr) : decI (.pair o (.pair a r)) = if o.isNum && a.isNum then decB o.pairs a.pairs r else none := rfl
/-- The instructions of a list of codes. -/
def decL : Tr → Option (List Ins)
  | .nil => some []
  | .pair u t => match decI u, decL t with
    | some x, some l => some (x :: l)
    | _, _ => none
/-- The valid program with a code. -/
def decT (t : Tr) : Option (List Ins) := match decL t with
  | some l => if validB l then some l else none
  | none => none
theorem isNum_num (n : Nat) : (Tr.num n).isNum = true := (Tr.isNum_num n).1
theorem pairs_num (n : Nat) : (Tr.num n).pairs = n := (Tr.isNum_num n).2
theorem tree_none {s : ByteArray} (h : s.toList.isEmpty = true) : s = ⟨#[]⟩ := by
  apply ba_ext
  rw [ByteArray.toList_eq] at h
  simpa using h
theorem decI_of {x : Ins} {i n : Int} (h : rightB x i n = true) : decI (insT x) = some x := by
  obtain ⟨a, ha, _, hbc⟩ := right_nats h
  have hop := right_op h
  unfold rightB at h
  simp only [Bool.and_eq_true, Bool.or_eq_true, beq_iff_eq] at h
  obtain ⟨⟨⟨_, h2⟩, h3⟩, h4⟩ := h
  obtain ⟨op, xa, b, c, t⟩ := x
  simp only at ha hop hbc h2 h3 h4
  subst ha
  rcases hop with rfl | rfl | rfl | rfl | rfl | rfl
  · simp only [if_true, Bool.and_eq_true, beq_iff_eq] at h4
    obtain ⟨rfl, ht⟩ := h4
    have hc : c = 0 := by rcases h3 with h3 | h3; · cases h3
                          · exact h3
    subst hc
    simp [insT, bodyT, decI_eq, decB, isNum_num, pairs_num, TS_toTr ht]
  · obtain ⟨b', c', rfl, rfl, _, _⟩ := hbc (by decide)
    have hc : (c' : Int) = 0 := by rcases h3 with h3 | h3; · cases h3
                                   · exact h3
    have ht : t = ⟨#[]⟩ := by rcases h2 with h2 | h2; · cases h2
                              · exact tree_none h2
    subst ht
    simp [insT, bodyT, decI_eq, decB, isNum_num, pairs_num, hc]
  · obtain ⟨b', c', rfl, rfl, _, _⟩ := hbc (by decide)
    have ht : t = ⟨#[]⟩ := by rcases h2 with h2 | h2; · cases h2
                              · exact tree_none h2
    subst ht
    simp [insT, bodyT, decI_eq, decB, isNum_num, pairs_num]
  · obtain ⟨b', c', rfl, rfl, _, _⟩ := hbc (by decide)
    have hc : (c' : Int) = 0 := by rcases h3 with h3 | h3; · cases h3
                                   · exact h3
    have ht : t = ⟨#[]⟩ := by rcases h2 with h2 | h2; · cases h2
                              · exact tree_none h2
    subst ht
    simp [insT, bodyT, decI_eq, decB, isNum_num, pairs_num, hc]
  · obtain ⟨b', c', rfl, rfl, _, _⟩ := hbc (by decide)
    have hc : (c' : Int) = 0 := by rcases h3 with h3 | h3; · cases h3
                                   · exact h3
    have ht : t = ⟨#[]⟩ := by rcases h2 with h2 | h2; · cases h2
                              · exact tree_none h2
    subst ht
    simp [insT, bodyT, decI_eq, decB, isNum_num, pairs_num, hc]
  · have hc : c = 0 := by rcases h3 with h3 | h3; · cases h3
                          · exact h3
    have ht : t = ⟨#[]⟩ := by rcases h2 with h2 | h2; · cases h2
                              · exact tree_none h2
    subst hc ht
    by_cases hb : b < 0
    · obtain ⟨m, rfl⟩ : ∃ m : Nat, b = -(m : Int) := ⟨b.natAbs, by omega⟩
      have hm : 0 < m := by omega
      simp [insT, bodyT, decI_eq, decB, isNum_num, pairs_num, hm]
    · obtain ⟨m, rfl⟩ : ∃ m : Nat, b = (m : Int) := ⟨b.natAbs, by omega⟩
      simp [insT, bodyT, decI_eq, decB, isNum_num, pairs_num, hb]
theorem decL_of : ∀ {l : List Ins}, (∀ x ∈ l, ∃ i n, rightB x i n = true) → decL (codeT l) = some l
  | [], _ => rfl
  | x :: l, h => by
    obtain ⟨i, n, hr⟩ := h x List.mem_cons_self
    rw [codeT, decL, decI_of hr, decL_of fun y hy => h y (List.mem_cons_of_mem _ hy)]
theorem decT_of {l : List Ins} (h : validB l = true) : decT (codeT l) = some l := by
  unfold decT
  rw [decL_of (valid_rights (validB_all h))]
  exact if_pos h
end Go.Proofs.Ytlaeljkjdfffjaa


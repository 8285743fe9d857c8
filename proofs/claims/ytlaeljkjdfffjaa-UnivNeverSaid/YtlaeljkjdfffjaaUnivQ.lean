/- Plain: the loops of the universal program that make pairs; its straight parts, one path for each operation. -/
import Derived.Test.YtlaeljkjdfffjaaUnivP
namespace Go.Proofs.Ytlaeljkjdfffjaa
open Go.RowKit

/-- The first elements of a list, put onto another one, turned round. -/
def pushN : Nat → Tr → Tr → Tr | 0, _, tu => tu | n + 1, li, tu => pushN n li.tl (.pair li.hd tu)
/-- All elements, put onto a list, turned round. -/
def unT : Tr → Tr → Tr | .nil, li => li | .pair h t, li => unT t (.pair h li)
/-- So many more. -/
def addN : Nat → Tr → Tr | 0, p => p | n + 1, p => addN n (.pair .nil p)
def lenT : Tr → Nat | .nil => 0 | .pair _ t => lenT t + 1
theorem pushN_size : ∀ (n : Nat) (li tu : Tr), tu.size ≤ (pushN n li tu).size
  | 0, _, _ => Nat.le_refl _
  | n + 1, li, tu => Nat.le_trans (by simp only [Tr.size]; omega) (pushN_size n li.tl (.pair li.hd tu))
theorem unT_size : ∀ (tu li : Tr), li.size ≤ (unT tu li).size
  | .nil, _ => Nat.le_refl _
  | .pair h t, li => Nat.le_trans (by simp only [Tr.size]; omega) (unT_size t (.pair h li))
theorem addN_size : ∀ (n : Nat) (p : Tr), p.size ≤ (addN n p).size
  | 0, _ => Nat.le_refl _
  | n + 1, p => Nat.le_trans (by simp only [Tr.size]; omega) (addN_size n (.pair .nil p))
theorem addN_num : ∀ (n m : Nat), addN n (.num m) = .num (m + n)
  | 0, _ => rfl
  | n + 1, m => by
    show addN n (.num (m + 1)) = _
    rw [addN_num n (m + 1)]
    congr 1
    omega
theorem num_ne (n : Nat) : Tr.num (n + 1) ≠ .nil := fun h => by cases h
theorem pair_ne (a b : Tr) : Tr.pair a b ≠ .nil := fun h => by cases h
theorem us_88 (o w r p g op ar fi va ot : Tr) : ∀ (n : Nat) (li tu pa : Tr), (pushN n li tu).size ≤ 2000000 → ∃ pa', Runs univL (6 * n + 2) ⟨88, UF o w r p g op ar fi va ot (.num n) li tu pa⟩ ⟨95, UF o w r p g op ar fi va ot .nil (tlN n li) (pushN n li tu) pa'⟩
  | 0, li, tu, pa, _ => ⟨pa, ((show Runs univL 1 ⟨88, UF o w r p g op ar fi va ot .nil li tu pa⟩ ⟨89, UF o w r p g op ar fi va ot .nil li tu pa⟩ from stay_run 10 2 _ rfl rfl)).trans
        (show Runs univL 1 ⟨89, UF o w r p g op ar fi va ot .nil li tu pa⟩ ⟨95, UF o w r p g op ar fi va ot .nil li tu pa⟩ from jump_run 14 6 _ 95 rfl yes_on (by decide))⟩
  | n + 1, li, tu, pa, hs => by
    obtain ⟨pa', h5⟩ := us_88 o w r p g op ar fi va ot n li.tl (.pair li.hd tu) li.hd hs
    have h1 := ((((((show Runs univL 1 ⟨88, UF o w r p g op ar fi va ot (.num (n + 1)) li tu pa⟩ ⟨90, UF o w r p g op ar fi va ot (.num (n + 1)) li tu pa⟩ from jump_run 10 2 _ 90 rfl (num_ne n) (by decide))).trans
        (show Runs univL 1 ⟨90, UF o w r p g op ar fi va ot (.num (n + 1)) li tu pa⟩ ⟨91, UF o w r p g op ar fi va ot (.num (n + 1)) li tu (Tr.hd li)⟩ from head_run 13 11 _ _ _ rfl rfl rfl)).trans
        (show Runs univL 1 ⟨91, UF o w r p g op ar fi va ot (.num (n + 1)) li tu (Tr.hd li)⟩ ⟨92, UF o w r p g op ar fi va ot (.num (n + 1)) li (.pair (Tr.hd li) tu) (Tr.hd li)⟩ from cons_run 12 13 12 _ _ _ _ rfl rfl rfl (Nat.le_trans (pushN_size n li.tl (.pair li.hd tu)) hs) rfl)).trans
        (show Runs univL 1 ⟨92, UF o w r p g op ar fi va ot (.num (n + 1)) li (.pair (Tr.hd li) tu) (Tr.hd li)⟩ ⟨93, UF o w r p g op ar fi va ot (.num (n + 1)) (Tr.tl li) (.pair (Tr.hd li) tu) (Tr.hd li)⟩ from tail_run 11 11 _ _ _ rfl rfl rfl)).trans
        (show Runs univL 1 ⟨93, UF o w r p g op ar fi va ot (.num (n + 1)) (Tr.tl li) (.pair (Tr.hd li) tu) (Tr.hd li)⟩ ⟨94, UF o w r p g op ar fi va ot (.num n) (Tr.tl li) (.pair (Tr.hd li) tu) (Tr.hd li)⟩ from tail_run 10 10 _ _ _ rfl rfl rfl)).trans
        (show Runs univL 1 ⟨94, UF o w r p g op ar fi va ot (.num n) (Tr.tl li) (.pair (Tr.hd li) tu) (Tr.hd li)⟩ ⟨88, UF o w r p g op ar fi va ot (.num n) (Tr.tl li) (.pair (Tr.hd li) tu) (Tr.hd li)⟩ from jump_run 14 (-6) _ 88 rfl yes_on (by decide))
    refine ⟨pa', ?_⟩
    rw [show 6 * (n + 1) + 2 = 1 + 1 + 1 + 1 + 1 + 1 + (6 * n + 2) by omega]
    exact h1.trans h5
theorem us_97 (o w r p g op ar fi va ot le : Tr) : ∀ (tu li pa : Tr), (unT tu li).size ≤ 2000000 → ∃ pa', Runs univL (5 * lenT tu + 2) ⟨97, UF o w r p g op ar fi va ot le li tu pa⟩ ⟨103, UF o w r p g op ar fi va ot le (unT tu li) .nil pa'⟩
  | .nil, li, pa, _ => ⟨pa, ((show Runs univL 1 ⟨97, UF o w r p g op ar fi va ot le li .nil pa⟩ ⟨98, UF o w r p g op ar fi va ot le li .nil pa⟩ from stay_run 12 2 _ rfl rfl)).trans
        (show Runs univL 1 ⟨98, UF o w r p g op ar fi va ot le li .nil pa⟩ ⟨103, UF o w r p g op ar fi va ot le li .nil pa⟩ from jump_run 14 5 _ 103 rfl yes_on (by decide))⟩
  | .pair h t, li, pa, hs => by
    obtain ⟨pa', h5⟩ := us_97 o w r p g op ar fi va ot le t (.pair h li) h hs
    have hc := Nat.le_trans (unT_size t (.pair h li)) hs
    have h1 := (((((show Runs univL 1 ⟨97, UF o w r p g op ar fi va ot le li (.pair h t) pa⟩ ⟨99, UF o w r p g op ar fi va ot le li (.pair h t) pa⟩ from jump_run 12 2 _ 99 rfl (pair_ne h t) (by decide))).trans
        (show Runs univL 1 ⟨99, UF o w r p g op ar fi va ot le li (.pair h t) pa⟩ ⟨100, UF o w r p g op ar fi va ot le li (.pair h t) h⟩ from head_run 13 12 _ _ _ rfl rfl rfl)).trans
        (show Runs univL 1 ⟨100, UF o w r p g op ar fi va ot le li (.pair h t) h⟩ ⟨101, UF o w r p g op ar fi va ot le (.pair h li) (.pair h t) h⟩ from cons_run 11 13 11 _ _ _ _ rfl rfl rfl hc rfl)).trans
        (show Runs univL 1 ⟨101, UF o w r p g op ar fi va ot le (.pair h li) (.pair h t) h⟩ ⟨102, UF o w r p g op ar fi va ot le (.pair h li) t h⟩ from tail_run 12 12 _ _ _ rfl rfl rfl)).trans
        (show Runs univL 1 ⟨102, UF o w r p g op ar fi va ot le (.pair h li) t h⟩ ⟨97, UF o w r p g op ar fi va ot le (.pair h li) t h⟩ from jump_run 14 (-5) _ 97 rfl yes_on (by decide))
    refine ⟨pa', ?_⟩
    rw [show 5 * lenT (.pair h t) + 2 = 1 + 1 + 1 + 1 + 1 + (5 * lenT t + 2) by simp only [lenT]; omega]
    exact h1.trans h5
theorem us_108 (o w g op ar fi va ot li tu : Tr) : ∀ (n : Nat) (r p pa : Tr), (addN n p).size ≤ 2000000 → ∃ pa', Runs univL (6 * n + 2) ⟨108, UF o w r p g op ar fi va ot (.num n) li tu pa⟩ ⟨115, UF o w (tlN n r) (addN n p) g op ar fi va ot .nil li tu pa'⟩
  | 0, r, p, pa, _ => ⟨pa, ((show Runs univL 1 ⟨108, UF o w r p g op ar fi va ot .nil li tu pa⟩ ⟨109, UF o w r p g op ar fi va ot .nil li tu pa⟩ from stay_run 10 2 _ rfl rfl)).trans
        (show Runs univL 1 ⟨109, UF o w r p g op ar fi va ot .nil li tu pa⟩ ⟨115, UF o w r p g op ar fi va ot .nil li tu pa⟩ from jump_run 14 6 _ 115 rfl yes_on (by decide))⟩
  | n + 1, r, p, pa, hs => by
    obtain ⟨pa', h5⟩ := us_108 o w g op ar fi va ot li tu n r.tl (.pair .nil p) .nil hs
    have h1 := ((((((show Runs univL 1 ⟨108, UF o w r p g op ar fi va ot (.num (n + 1)) li tu pa⟩ ⟨110, UF o w r p g op ar fi va ot (.num (n + 1)) li tu pa⟩ from jump_run 10 2 _ 110 rfl (num_ne n) (by decide))).trans
        (show Runs univL 1 ⟨110, UF o w r p g op ar fi va ot (.num (n + 1)) li tu pa⟩ ⟨111, UF o w (Tr.tl r) p g op ar fi va ot (.num (n + 1)) li tu pa⟩ from tail_run 2 2 _ _ _ rfl rfl rfl)).trans
        (show Runs univL 1 ⟨111, UF o w (Tr.tl r) p g op ar fi va ot (.num (n + 1)) li tu pa⟩ ⟨112, UF o w (Tr.tl r) p g op ar fi va ot (.num (n + 1)) li tu .nil⟩ from set_run 13 ⟨#[48]⟩ .nil _ _ rfl tr_nil rfl)).trans
        (show Runs univL 1 ⟨112, UF o w (Tr.tl r) p g op ar fi va ot (.num (n + 1)) li tu .nil⟩ ⟨113, UF o w (Tr.tl r) (.pair .nil p) g op ar fi va ot (.num (n + 1)) li tu .nil⟩ from cons_run 3 13 3 _ _ _ _ rfl rfl rfl (Nat.le_trans (addN_size n (.pair .nil p)) hs) rfl)).trans
        (show Runs univL 1 ⟨113, UF o w (Tr.tl r) (.pair .nil p) g op ar fi va ot (.num (n + 1)) li tu .nil⟩ ⟨114, UF o w (Tr.tl r) (.pair .nil p) g op ar fi va ot (.num n) li tu .nil⟩ from tail_run 10 10 _ _ _ rfl rfl rfl)).trans
        (show Runs univL 1 ⟨114, UF o w (Tr.tl r) (.pair .nil p) g op ar fi va ot (.num n) li tu .nil⟩ ⟨108, UF o w (Tr.tl r) (.pair .nil p) g op ar fi va ot (.num n) li tu .nil⟩ from jump_run 14 (-6) _ 108 rfl yes_on (by decide))
    refine ⟨pa', ?_⟩
    rw [show 6 * (n + 1) + 2 = 1 + 1 + 1 + 1 + 1 + 1 + (6 * n + 2) by omega]
    exact h1.trans h5
end Go.Proofs.Ytlaeljkjdfffjaa


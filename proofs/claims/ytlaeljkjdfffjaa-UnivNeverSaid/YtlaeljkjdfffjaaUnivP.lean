/- Plain: the universal program as a list; its straight parts and its counting loops. -/
import Derived.Test.YtlaeljkjdfffjaaMB4
namespace Go.Proofs.Ytlaeljkjdfffjaa
open Go.RowKit

/-- The universal program. -/
def univL : List Ins := [⟨3, 1, 0, 0, ⟨#[]⟩⟩, ⟨4, 8, 0, 0, ⟨#[]⟩⟩, moveI 2 1, consI 4 8 4, setI 14 ⟨#[49, 48, 48]⟩, jumpI 2 3, ⟨3, 0, 4, 0, ⟨#[]⟩⟩, jumpI 14 122, ⟨3, 13, 2, 0, ⟨#[]⟩⟩, ⟨3, 5, 13, 0, ⟨#[]⟩⟩, ⟨4, 6, 13, 0, ⟨#[]⟩⟩, ⟨3, 7, 6, 0, ⟨#[]⟩⟩, ⟨4, 6, 6, 0, ⟨#[]⟩⟩, jumpI 5 3, moveI 8 6, jumpI 14 70, ⟨4, 5, 5, 0, ⟨#[]⟩⟩, jumpI 5 10, moveI 10 6, moveI 11 4, jumpI 10 2, jumpI 14 4, ⟨4, 11, 11, 0, ⟨#[]⟩⟩, ⟨4, 10, 10, 0, ⟨#[]⟩⟩, jumpI 14 (-4), ⟨3, 8, 11, 0, ⟨#[]⟩⟩, jumpI 14 59, ⟨4, 5, 5, 0, ⟨#[]⟩⟩, jumpI 5 19, ⟨3, 10, 6, 0, ⟨#[]⟩⟩, moveI 11 4, jumpI 10 2, jumpI 14 4, ⟨4, 11, 11, 0, ⟨#[]⟩⟩, ⟨4, 10, 10, 0, ⟨#[]⟩⟩, jumpI 14 (-4), ⟨3, 9, 11, 0, ⟨#[]⟩⟩, ⟨4, 10, 6, 0, ⟨#[]⟩⟩, moveI 11 4, jumpI 10 2, jumpI 14 4, ⟨4, 11, 11, 0, ⟨#[]⟩⟩, ⟨4, 10, 10, 0, ⟨#[]⟩⟩, jumpI 14 (-4), ⟨3, 8, 11, 0, ⟨#[]⟩⟩, consI 8 9 8, jumpI 14 39, ⟨4, 5, 5, 0, ⟨#[]⟩⟩, jumpI 5 11, moveI 10 6, moveI 11 4, jumpI 10 2, jumpI 14 4, ⟨4, 11, 11, 0, ⟨#[]⟩⟩, ⟨4, 10, 10, 0, ⟨#[]⟩⟩, jumpI 14 (-4), ⟨3, 8, 11, 0, ⟨#[]⟩⟩, ⟨3, 8, 8, 0, ⟨#[]⟩⟩, jumpI 14 27, ⟨4, 5, 5, 0, ⟨#[]⟩⟩, jumpI 5 11, moveI 10 6, moveI 11 4, jumpI 10 2, jumpI 14 4, ⟨4, 11, 11, 0, ⟨#[]⟩⟩, ⟨4, 10, 10, 0, ⟨#[]⟩⟩, jumpI 14 (-4), ⟨3, 8, 11, 0, ⟨#[]⟩⟩, ⟨4, 8, 8, 0, ⟨#[]⟩⟩, jumpI 14 15, ⟨4, 5, 5, 0, ⟨#[]⟩⟩, moveI 10 7, moveI 11 4, jumpI 10 2, jumpI 14 4, ⟨4, 11, 11, 0, ⟨#[]⟩⟩, ⟨4, 10, 10, 0, ⟨#[]⟩⟩, jumpI 14 (-4), ⟨3, 8, 11, 0, ⟨#[]⟩⟩, jumpI 8 25, ⟨4, 2, 2, 0, ⟨#[]⟩⟩, setI 13 ⟨#[48]⟩, consI 3 13 3, jumpI 14 (-79), moveI 11 4, setI 12 ⟨#[48]⟩, moveI 10 7, jumpI 10 2, jumpI 14 6, ⟨3, 13, 11, 0, ⟨#[]⟩⟩, consI 12 13 12, ⟨4, 11, 11, 0, ⟨#[]⟩⟩, ⟨4, 10, 10, 0, ⟨#[]⟩⟩, jumpI 14 (-6), ⟨4, 11, 11, 0, ⟨#[]⟩⟩, consI 11 8 11, jumpI 12 2, jumpI 14 5, ⟨3, 13, 12, 0, ⟨#[]⟩⟩, consI 11 13 11, ⟨4, 12, 12, 0, ⟨#[]⟩⟩, jumpI 14 (-5), moveI 4 11, jumpI 14 (-23), ⟨3, 13, 6, 0, ⟨#[]⟩⟩, ⟨4, 10, 6, 0, ⟨#[]⟩⟩, jumpI 13 9, jumpI 10 2, jumpI 14 6, ⟨4, 2, 2, 0, ⟨#[]⟩⟩, setI 13 ⟨#[48]⟩, consI 3 13 3, ⟨4, 10, 10, 0, ⟨#[]⟩⟩, jumpI 14 (-6), jumpI 14 (-110), jumpI 10 2, jumpI 14 4, ⟨4, 3, 3, 0, ⟨#[]⟩⟩, ⟨4, 10, 10, 0, ⟨#[]⟩⟩, jumpI 14 (-4), moveI 2 1, moveI 10 3, jumpI 10 2, jumpI 14 4, ⟨4, 2, 2, 0, ⟨#[]⟩⟩, ⟨4, 10, 10, 0, ⟨#[]⟩⟩, jumpI 14 (-4), jumpI 14 (-123)]
/-- The registers: the input, the code, the code from here on, the place, the list of the registers, operation, arguments, first one, value, other value, a number counted down, a list gone through, its beginning turned round, a part, not nil. -/
def UF (o w r p g op ar fi va ot le li tu pa : Tr) : List Tr := o :: w :: r :: p :: g :: op :: ar :: fi :: va :: ot :: le :: li :: tu :: pa :: .pair .nil .nil :: List.replicate 17 .nil
theorem yes_on {o w r p g op ar fi va ot le li tu pa : Tr} : getR (UF o w r p g op ar fi va ot le li tu pa) ((14 : Nat) : Int) ≠ .nil := by
  show Tr.pair .nil .nil ≠ .nil
  exact fun h => by cases h
/-- So many tails. -/
def tlN : Nat → Tr → Tr | 0, t => t | n + 1, t => tlN n t.tl
set_option maxRecDepth 4000 in
theorem univ_len : univL.length = 129 := rfl
theorem uc_20 (o w r p g op ar fi va ot tu pa : Tr) : ∀ (n : Nat) (li : Tr), Runs univL (4 * n + 2) ⟨20, UF o w r p g op ar fi va ot (.num n) li tu pa⟩ ⟨25, UF o w r p g op ar fi va ot .nil (tlN n li) tu pa⟩
  | 0, li => (show Runs univL 1 ⟨20, UF o w r p g op ar fi va ot .nil li tu pa⟩ ⟨21, UF o w r p g op ar fi va ot .nil li tu pa⟩ from stay_run 10 2 _ rfl rfl).trans (show Runs univL 1 ⟨21, UF o w r p g op ar fi va ot .nil li tu pa⟩ ⟨25, UF o w r p g op ar fi va ot .nil li tu pa⟩ from jump_run 14 4 _ 25 rfl yes_on (by decide))
  | n + 1, li => by
    have h1 : Runs univL 1 ⟨20, UF o w r p g op ar fi va ot (.num (n + 1)) li tu pa⟩ ⟨22, UF o w r p g op ar fi va ot (.num (n + 1)) li tu pa⟩ := jump_run 10 2 _ 22 rfl (by show Tr.pair .nil (.num n) ≠ .nil; exact fun h => by cases h) (by decide)
    have h2 : Runs univL 1 ⟨22, UF o w r p g op ar fi va ot (.num (n + 1)) li tu pa⟩ ⟨23, UF o w r p g op ar fi va ot (.num (n + 1)) li.tl tu pa⟩ := tail_run 11 11 _ _ _ rfl rfl rfl
    have h3 : Runs univL 1 ⟨23, UF o w r p g op ar fi va ot (.num (n + 1)) li.tl tu pa⟩ ⟨24, UF o w r p g op ar fi va ot (.num n) li.tl tu pa⟩ := tail_run 10 10 _ _ _ rfl rfl rfl
    have h4 : Runs univL 1 ⟨24, UF o w r p g op ar fi va ot (.num n) li.tl tu pa⟩ ⟨20, UF o w r p g op ar fi va ot (.num n) li.tl tu pa⟩ := jump_run 14 (-4) _ 20 rfl yes_on (by decide)
    have h5 := (((h1.trans h2).trans h3).trans h4).trans (uc_20 o w r p g op ar fi va ot tu pa n li.tl)
    rw [show 4 * (n + 1) + 2 = 1 + 1 + 1 + 1 + (4 * n + 2) by omega]
    exact h5
theorem uc_31 (o w r p g op ar fi va ot tu pa : Tr) : ∀ (n : Nat) (li : Tr), Runs univL (4 * n + 2) ⟨31, UF o w r p g op ar fi va ot (.num n) li tu pa⟩ ⟨36, UF o w r p g op ar fi va ot .nil (tlN n li) tu pa⟩
  | 0, li => (show Runs univL 1 ⟨31, UF o w r p g op ar fi va ot .nil li tu pa⟩ ⟨32, UF o w r p g op ar fi va ot .nil li tu pa⟩ from stay_run 10 2 _ rfl rfl).trans (show Runs univL 1 ⟨32, UF o w r p g op ar fi va ot .nil li tu pa⟩ ⟨36, UF o w r p g op ar fi va ot .nil li tu pa⟩ from jump_run 14 4 _ 36 rfl yes_on (by decide))
  | n + 1, li => by
    have h1 : Runs univL 1 ⟨31, UF o w r p g op ar fi va ot (.num (n + 1)) li tu pa⟩ ⟨33, UF o w r p g op ar fi va ot (.num (n + 1)) li tu pa⟩ := jump_run 10 2 _ 33 rfl (by show Tr.pair .nil (.num n) ≠ .nil; exact fun h => by cases h) (by decide)
    have h2 : Runs univL 1 ⟨33, UF o w r p g op ar fi va ot (.num (n + 1)) li tu pa⟩ ⟨34, UF o w r p g op ar fi va ot (.num (n + 1)) li.tl tu pa⟩ := tail_run 11 11 _ _ _ rfl rfl rfl
    have h3 : Runs univL 1 ⟨34, UF o w r p g op ar fi va ot (.num (n + 1)) li.tl tu pa⟩ ⟨35, UF o w r p g op ar fi va ot (.num n) li.tl tu pa⟩ := tail_run 10 10 _ _ _ rfl rfl rfl
    have h4 : Runs univL 1 ⟨35, UF o w r p g op ar fi va ot (.num n) li.tl tu pa⟩ ⟨31, UF o w r p g op ar fi va ot (.num n) li.tl tu pa⟩ := jump_run 14 (-4) _ 31 rfl yes_on (by decide)
    have h5 := (((h1.trans h2).trans h3).trans h4).trans (uc_31 o w r p g op ar fi va ot tu pa n li.tl)
    rw [show 4 * (n + 1) + 2 = 1 + 1 + 1 + 1 + (4 * n + 2) by omega]
    exact h5
theorem uc_39 (o w r p g op ar fi va ot tu pa : Tr) : ∀ (n : Nat) (li : Tr), Runs univL (4 * n + 2) ⟨39, UF o w r p g op ar fi va ot (.num n) li tu pa⟩ ⟨44, UF o w r p g op ar fi va ot .nil (tlN n li) tu pa⟩
  | 0, li => (show Runs univL 1 ⟨39, UF o w r p g op ar fi va ot .nil li tu pa⟩ ⟨40, UF o w r p g op ar fi va ot .nil li tu pa⟩ from stay_run 10 2 _ rfl rfl).trans (show Runs univL 1 ⟨40, UF o w r p g op ar fi va ot .nil li tu pa⟩ ⟨44, UF o w r p g op ar fi va ot .nil li tu pa⟩ from jump_run 14 4 _ 44 rfl yes_on (by decide))
  | n + 1, li => by
    have h1 : Runs univL 1 ⟨39, UF o w r p g op ar fi va ot (.num (n + 1)) li tu pa⟩ ⟨41, UF o w r p g op ar fi va ot (.num (n + 1)) li tu pa⟩ := jump_run 10 2 _ 41 rfl (by show Tr.pair .nil (.num n) ≠ .nil; exact fun h => by cases h) (by decide)
    have h2 : Runs univL 1 ⟨41, UF o w r p g op ar fi va ot (.num (n + 1)) li tu pa⟩ ⟨42, UF o w r p g op ar fi va ot (.num (n + 1)) li.tl tu pa⟩ := tail_run 11 11 _ _ _ rfl rfl rfl
    have h3 : Runs univL 1 ⟨42, UF o w r p g op ar fi va ot (.num (n + 1)) li.tl tu pa⟩ ⟨43, UF o w r p g op ar fi va ot (.num n) li.tl tu pa⟩ := tail_run 10 10 _ _ _ rfl rfl rfl
    have h4 : Runs univL 1 ⟨43, UF o w r p g op ar fi va ot (.num n) li.tl tu pa⟩ ⟨39, UF o w r p g op ar fi va ot (.num n) li.tl tu pa⟩ := jump_run 14 (-4) _ 39 rfl yes_on (by decide)
    have h5 := (((h1.trans h2).trans h3).trans h4).trans (uc_39 o w r p g op ar fi va ot tu pa n li.tl)
    rw [show 4 * (n + 1) + 2 = 1 + 1 + 1 + 1 + (4 * n + 2) by omega]
    exact h5
theorem uc_51 (o w r p g op ar fi va ot tu pa : Tr) : ∀ (n : Nat) (li : Tr), Runs univL (4 * n + 2) ⟨51, UF o w r p g op ar fi va ot (.num n) li tu pa⟩ ⟨56, UF o w r p g op ar fi va ot .nil (tlN n li) tu pa⟩
  | 0, li => (show Runs univL 1 ⟨51, UF o w r p g op ar fi va ot .nil li tu pa⟩ ⟨52, UF o w r p g op ar fi va ot .nil li tu pa⟩ from stay_run 10 2 _ rfl rfl).trans (show Runs univL 1 ⟨52, UF o w r p g op ar fi va ot .nil li tu pa⟩ ⟨56, UF o w r p g op ar fi va ot .nil li tu pa⟩ from jump_run 14 4 _ 56 rfl yes_on (by decide))
  | n + 1, li => by
    have h1 : Runs univL 1 ⟨51, UF o w r p g op ar fi va ot (.num (n + 1)) li tu pa⟩ ⟨53, UF o w r p g op ar fi va ot (.num (n + 1)) li tu pa⟩ := jump_run 10 2 _ 53 rfl (by show Tr.pair .nil (.num n) ≠ .nil; exact fun h => by cases h) (by decide)
    have h2 : Runs univL 1 ⟨53, UF o w r p g op ar fi va ot (.num (n + 1)) li tu pa⟩ ⟨54, UF o w r p g op ar fi va ot (.num (n + 1)) li.tl tu pa⟩ := tail_run 11 11 _ _ _ rfl rfl rfl
    have h3 : Runs univL 1 ⟨54, UF o w r p g op ar fi va ot (.num (n + 1)) li.tl tu pa⟩ ⟨55, UF o w r p g op ar fi va ot (.num n) li.tl tu pa⟩ := tail_run 10 10 _ _ _ rfl rfl rfl
    have h4 : Runs univL 1 ⟨55, UF o w r p g op ar fi va ot (.num n) li.tl tu pa⟩ ⟨51, UF o w r p g op ar fi va ot (.num n) li.tl tu pa⟩ := jump_run 14 (-4) _ 51 rfl yes_on (by decide)
    have h5 := (((h1.trans h2).trans h3).trans h4).trans (uc_51 o w r p g op ar fi va ot tu pa n li.tl)
    rw [show 4 * (n + 1) + 2 = 1 + 1 + 1 + 1 + (4 * n + 2) by omega]
    exact h5
theorem uc_63 (o w r p g op ar fi va ot tu pa : Tr) : ∀ (n : Nat) (li : Tr), Runs univL (4 * n + 2) ⟨63, UF o w r p g op ar fi va ot (.num n) li tu pa⟩ ⟨68, UF o w r p g op ar fi va ot .nil (tlN n li) tu pa⟩
  | 0, li => (show Runs univL 1 ⟨63, UF o w r p g op ar fi va ot .nil li tu pa⟩ ⟨64, UF o w r p g op ar fi va ot .nil li tu pa⟩ from stay_run 10 2 _ rfl rfl).trans (show Runs univL 1 ⟨64, UF o w r p g op ar fi va ot .nil li tu pa⟩ ⟨68, UF o w r p g op ar fi va ot .nil li tu pa⟩ from jump_run 14 4 _ 68 rfl yes_on (by decide))
  | n + 1, li => by
    have h1 : Runs univL 1 ⟨63, UF o w r p g op ar fi va ot (.num (n + 1)) li tu pa⟩ ⟨65, UF o w r p g op ar fi va ot (.num (n + 1)) li tu pa⟩ := jump_run 10 2 _ 65 rfl (by show Tr.pair .nil (.num n) ≠ .nil; exact fun h => by cases h) (by decide)
    have h2 : Runs univL 1 ⟨65, UF o w r p g op ar fi va ot (.num (n + 1)) li tu pa⟩ ⟨66, UF o w r p g op ar fi va ot (.num (n + 1)) li.tl tu pa⟩ := tail_run 11 11 _ _ _ rfl rfl rfl
    have h3 : Runs univL 1 ⟨66, UF o w r p g op ar fi va ot (.num (n + 1)) li.tl tu pa⟩ ⟨67, UF o w r p g op ar fi va ot (.num n) li.tl tu pa⟩ := tail_run 10 10 _ _ _ rfl rfl rfl
    have h4 : Runs univL 1 ⟨67, UF o w r p g op ar fi va ot (.num n) li.tl tu pa⟩ ⟨63, UF o w r p g op ar fi va ot (.num n) li.tl tu pa⟩ := jump_run 14 (-4) _ 63 rfl yes_on (by decide)
    have h5 := (((h1.trans h2).trans h3).trans h4).trans (uc_63 o w r p g op ar fi va ot tu pa n li.tl)
    rw [show 4 * (n + 1) + 2 = 1 + 1 + 1 + 1 + (4 * n + 2) by omega]
    exact h5
theorem uc_74 (o w r p g op ar fi va ot tu pa : Tr) : ∀ (n : Nat) (li : Tr), Runs univL (4 * n + 2) ⟨74, UF o w r p g op ar fi va ot (.num n) li tu pa⟩ ⟨79, UF o w r p g op ar fi va ot .nil (tlN n li) tu pa⟩
  | 0, li => (show Runs univL 1 ⟨74, UF o w r p g op ar fi va ot .nil li tu pa⟩ ⟨75, UF o w r p g op ar fi va ot .nil li tu pa⟩ from stay_run 10 2 _ rfl rfl).trans (show Runs univL 1 ⟨75, UF o w r p g op ar fi va ot .nil li tu pa⟩ ⟨79, UF o w r p g op ar fi va ot .nil li tu pa⟩ from jump_run 14 4 _ 79 rfl yes_on (by decide))
  | n + 1, li => by
    have h1 : Runs univL 1 ⟨74, UF o w r p g op ar fi va ot (.num (n + 1)) li tu pa⟩ ⟨76, UF o w r p g op ar fi va ot (.num (n + 1)) li tu pa⟩ := jump_run 10 2 _ 76 rfl (by show Tr.pair .nil (.num n) ≠ .nil; exact fun h => by cases h) (by decide)
    have h2 : Runs univL 1 ⟨76, UF o w r p g op ar fi va ot (.num (n + 1)) li tu pa⟩ ⟨77, UF o w r p g op ar fi va ot (.num (n + 1)) li.tl tu pa⟩ := tail_run 11 11 _ _ _ rfl rfl rfl
    have h3 : Runs univL 1 ⟨77, UF o w r p g op ar fi va ot (.num (n + 1)) li.tl tu pa⟩ ⟨78, UF o w r p g op ar fi va ot (.num n) li.tl tu pa⟩ := tail_run 10 10 _ _ _ rfl rfl rfl
    have h4 : Runs univL 1 ⟨78, UF o w r p g op ar fi va ot (.num n) li.tl tu pa⟩ ⟨74, UF o w r p g op ar fi va ot (.num n) li.tl tu pa⟩ := jump_run 14 (-4) _ 74 rfl yes_on (by decide)
    have h5 := (((h1.trans h2).trans h3).trans h4).trans (uc_74 o w r p g op ar fi va ot tu pa n li.tl)
    rw [show 4 * (n + 1) + 2 = 1 + 1 + 1 + 1 + (4 * n + 2) by omega]
    exact h5
theorem uc_116 (o w r g op ar fi va ot li tu pa : Tr) : ∀ (n : Nat) (p : Tr), Runs univL (4 * n + 2) ⟨116, UF o w r p g op ar fi va ot (.num n) li tu pa⟩ ⟨121, UF o w r (tlN n p) g op ar fi va ot .nil li tu pa⟩
  | 0, p => (show Runs univL 1 ⟨116, UF o w r p g op ar fi va ot .nil li tu pa⟩ ⟨117, UF o w r p g op ar fi va ot .nil li tu pa⟩ from stay_run 10 2 _ rfl rfl).trans (show Runs univL 1 ⟨117, UF o w r p g op ar fi va ot .nil li tu pa⟩ ⟨121, UF o w r p g op ar fi va ot .nil li tu pa⟩ from jump_run 14 4 _ 121 rfl yes_on (by decide))
  | n + 1, p => by
    have h1 : Runs univL 1 ⟨116, UF o w r p g op ar fi va ot (.num (n + 1)) li tu pa⟩ ⟨118, UF o w r p g op ar fi va ot (.num (n + 1)) li tu pa⟩ := jump_run 10 2 _ 118 rfl (by show Tr.pair .nil (.num n) ≠ .nil; exact fun h => by cases h) (by decide)
    have h2 : Runs univL 1 ⟨118, UF o w r p g op ar fi va ot (.num (n + 1)) li tu pa⟩ ⟨119, UF o w r p.tl g op ar fi va ot (.num (n + 1)) li tu pa⟩ := tail_run 3 3 _ _ _ rfl rfl rfl
    have h3 : Runs univL 1 ⟨119, UF o w r p.tl g op ar fi va ot (.num (n + 1)) li tu pa⟩ ⟨120, UF o w r p.tl g op ar fi va ot (.num n) li tu pa⟩ := tail_run 10 10 _ _ _ rfl rfl rfl
    have h4 : Runs univL 1 ⟨120, UF o w r p.tl g op ar fi va ot (.num n) li tu pa⟩ ⟨116, UF o w r p.tl g op ar fi va ot (.num n) li tu pa⟩ := jump_run 14 (-4) _ 116 rfl yes_on (by decide)
    have h5 := (((h1.trans h2).trans h3).trans h4).trans (uc_116 o w r g op ar fi va ot li tu pa n p.tl)
    rw [show 4 * (n + 1) + 2 = 1 + 1 + 1 + 1 + (4 * n + 2) by omega]
    exact h5
theorem uc_123 (o w p g op ar fi va ot li tu pa : Tr) : ∀ (n : Nat) (r : Tr), Runs univL (4 * n + 2) ⟨123, UF o w r p g op ar fi va ot (.num n) li tu pa⟩ ⟨128, UF o w (tlN n r) p g op ar fi va ot .nil li tu pa⟩
  | 0, r => (show Runs univL 1 ⟨123, UF o w r p g op ar fi va ot .nil li tu pa⟩ ⟨124, UF o w r p g op ar fi va ot .nil li tu pa⟩ from stay_run 10 2 _ rfl rfl).trans (show Runs univL 1 ⟨124, UF o w r p g op ar fi va ot .nil li tu pa⟩ ⟨128, UF o w r p g op ar fi va ot .nil li tu pa⟩ from jump_run 14 4 _ 128 rfl yes_on (by decide))
  | n + 1, r => by
    have h1 : Runs univL 1 ⟨123, UF o w r p g op ar fi va ot (.num (n + 1)) li tu pa⟩ ⟨125, UF o w r p g op ar fi va ot (.num (n + 1)) li tu pa⟩ := jump_run 10 2 _ 125 rfl (by show Tr.pair .nil (.num n) ≠ .nil; exact fun h => by cases h) (by decide)
    have h2 : Runs univL 1 ⟨125, UF o w r p g op ar fi va ot (.num (n + 1)) li tu pa⟩ ⟨126, UF o w r.tl p g op ar fi va ot (.num (n + 1)) li tu pa⟩ := tail_run 2 2 _ _ _ rfl rfl rfl
    have h3 : Runs univL 1 ⟨126, UF o w r.tl p g op ar fi va ot (.num (n + 1)) li tu pa⟩ ⟨127, UF o w r.tl p g op ar fi va ot (.num n) li tu pa⟩ := tail_run 10 10 _ _ _ rfl rfl rfl
    have h4 : Runs univL 1 ⟨127, UF o w r.tl p g op ar fi va ot (.num n) li tu pa⟩ ⟨123, UF o w r.tl p g op ar fi va ot (.num n) li tu pa⟩ := jump_run 14 (-4) _ 123 rfl yes_on (by decide)
    have h5 := (((h1.trans h2).trans h3).trans h4).trans (uc_123 o w p g op ar fi va ot li tu pa n r.tl)
    rw [show 4 * (n + 1) + 2 = 1 + 1 + 1 + 1 + (4 * n + 2) by omega]
    exact h5
end Go.Proofs.Ytlaeljkjdfffjaa


/- Plain: the program that makes the code of Spec. -/
import Derived.Test.YtlaeljkjdfffjaaRunsX
namespace Go.Proofs.Ytlaeljkjdfffjaa
open Go.RowKit

def hd3 (a b : Nat) : Ins := ⟨3, a, b, 0, ⟨#[]⟩⟩
def tl4 (a b : Nat) : Ins := ⟨4, a, b, 0, ⟨#[]⟩⟩
def clearC : ByteArray := ⟨#[49, 49, 48, 49, 49, 48, 48, 48, 48]⟩
def putC : ByteArray := ⟨#[49, 49, 49, 48, 49, 48, 48, 49, 48, 49, 49, 48, 48, 48, 48]⟩
def metaL : List Ins := [tl4 1 0, hd3 2 0, setI 3 clearC, hd3 3 3, consI 2 3 2, setI 3 putC, hd3 3 3, consI 2 3 2, setI 3 ⟨#[49, 48, 48]⟩, consI 1 3 1, setI 3 ⟨#[48]⟩, consI 1 3 1, consI 0 1 2]
theorem meta_valid : validB metaL = true := by decide +kernel
def clearI : Tr := insT (setI 1 ⟨#[48]⟩)
def putI : Tr := insT (consI 0 1 0)
theorem tr_clearC : toTr clearC = .pair clearI .nil := by decide +kernel
theorem tr_putC : toTr putC = .pair putI .nil := by decide +kernel
theorem clearI_size : clearI.size = 7 := by decide +kernel
theorem putI_size : putI.size = 13 := by decide +kernel
/-- What it returns on a pair. -/
def metaT (t d : Tr) : Tr := .pair (.pair .nil (.pair (.pair .nil .nil) d)) (.pair putI (.pair clearI t))
theorem metaT_size (t d : Tr) : (metaT t d).size = t.size + d.size + 29 := by
  unfold metaT
  simp only [Tr.size, clearI_size, putI_size]
  omega
def R4 (o a b c : Tr) : List Tr := o :: a :: b :: c :: List.replicate 28 .nil
theorem meta_run (t d : Tr) (hs : (metaT t d).size ≤ 2000000) : Runs metaL 13 (startS (.pair t d)) ⟨13, R4 (metaT t d) (.pair .nil (.pair (.pair .nil .nil) d)) (.pair putI (.pair clearI t)) .nil⟩ := by
  rw [metaT_size] at hs
  have h0 : Runs metaL 1 (startS (.pair t d)) ⟨1, R4 (.pair t d) d .nil .nil⟩ := tail_run 1 0 _ _ _ rfl rfl rfl
  have h1 : Runs metaL 1 ⟨1, R4 (.pair t d) d .nil .nil⟩ ⟨2, R4 (.pair t d) d t .nil⟩ := head_run 2 0 _ _ _ rfl rfl rfl
  have h2 : Runs metaL 1 ⟨2, R4 (.pair t d) d t .nil⟩ ⟨3, R4 (.pair t d) d t (.pair clearI .nil)⟩ := set_run 3 clearC _ _ _ rfl tr_clearC rfl
  have h3 : Runs metaL 1 ⟨3, R4 (.pair t d) d t (.pair clearI .nil)⟩ ⟨4, R4 (.pair t d) d t clearI⟩ := head_run 3 3 _ _ _ rfl rfl rfl
  have h4 : Runs metaL 1 ⟨4, R4 (.pair t d) d t clearI⟩ ⟨5, R4 (.pair t d) d (.pair clearI t) clearI⟩ := cons_run 2 3 2 clearI t _ _ rfl rfl rfl (by simp only [Tr.size, clearI_size]; omega) rfl
  have h5 : Runs metaL 1 ⟨5, R4 (.pair t d) d (.pair clearI t) clearI⟩ ⟨6, R4 (.pair t d) d (.pair clearI t) (.pair putI .nil)⟩ := set_run 3 putC _ _ _ rfl tr_putC rfl
  have h6 : Runs metaL 1 ⟨6, R4 (.pair t d) d (.pair clearI t) (.pair putI .nil)⟩ ⟨7, R4 (.pair t d) d (.pair clearI t) putI⟩ := head_run 3 3 _ _ _ rfl rfl rfl
  have h7 : Runs metaL 1 ⟨7, R4 (.pair t d) d (.pair clearI t) putI⟩ ⟨8, R4 (.pair t d) d (.pair putI (.pair clearI t)) putI⟩ := cons_run 2 3 2 putI (.pair clearI t) _ _ rfl rfl rfl (by simp only [Tr.size, clearI_size, putI_size]; omega) rfl
  have h8 : Runs metaL 1 ⟨8, R4 (.pair t d) d (.pair putI (.pair clearI t)) putI⟩ ⟨9, R4 (.pair t d) d (.pair putI (.pair clearI t)) (.pair .nil .nil)⟩ := set_run 3 ⟨#[49, 48, 48]⟩ _ _ _ rfl tr_100 rfl
  have h9 : Runs metaL 1 ⟨9, R4 (.pair t d) d (.pair putI (.pair clearI t)) (.pair .nil .nil)⟩ ⟨10, R4 (.pair t d) (.pair (.pair .nil .nil) d) (.pair putI (.pair clearI t)) (.pair .nil .nil)⟩ := cons_run 1 3 1 (.pair .nil .nil) d _ _ rfl rfl rfl (by simp only [Tr.size]; omega) rfl
  have h10 : Runs metaL 1 ⟨10, R4 (.pair t d) (.pair (.pair .nil .nil) d) (.pair putI (.pair clearI t)) (.pair .nil .nil)⟩ ⟨11, R4 (.pair t d) (.pair (.pair .nil .nil) d) (.pair putI (.pair clearI t)) .nil⟩ := set_run 3 ⟨#[48]⟩ _ _ _ rfl tr_nil rfl
  have h11 : Runs metaL 1 ⟨11, R4 (.pair t d) (.pair (.pair .nil .nil) d) (.pair putI (.pair clearI t)) .nil⟩ ⟨12, R4 (.pair t d) (.pair .nil (.pair (.pair .nil .nil) d)) (.pair putI (.pair clearI t)) .nil⟩ := cons_run 1 3 1 .nil (.pair (.pair .nil .nil) d) _ _ rfl rfl rfl (by simp only [Tr.size]; omega) rfl
  have h12 : Runs metaL 1 ⟨12, R4 (.pair t d) (.pair .nil (.pair (.pair .nil .nil) d)) (.pair putI (.pair clearI t)) .nil⟩ ⟨13, R4 (metaT t d) (.pair .nil (.pair (.pair .nil .nil) d)) (.pair putI (.pair clearI t)) .nil⟩ :=
    cons_run 0 1 2 (.pair .nil (.pair (.pair .nil .nil) d)) (.pair putI (.pair clearI t)) _ _ rfl rfl rfl (by show (metaT t d).size ≤ _; rw [metaT_size]; exact hs) rfl
  exact (((((((((((h0.trans h1).trans h2).trans h3).trans h4).trans h5).trans h6).trans h7).trans h8).trans h9).trans h10).trans h11).trans h12
theorem meta_small (t d : Tr) (hs : t.size + d.size ≤ 1900000) (F : Nat) (hF : 13 ≤ F) : ∃ s, goF metaL F 0 (startS (.pair t d)) = .done s 13 ∧ getR s.regs 0 = metaT t d :=
  ⟨_, (meta_run t d (by rw [metaT_size]; omega)).done rfl F hF, rfl⟩
end Go.Proofs.Ytlaeljkjdfffjaa


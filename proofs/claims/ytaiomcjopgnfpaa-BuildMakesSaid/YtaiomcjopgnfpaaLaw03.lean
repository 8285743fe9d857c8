/- The walks of narcissuslaw03: awake and doubles. -/
import Derived.Test.YtaiomcjopgnfpaaLaw03P
namespace Go.Proofs.Ytaiomcjopgnfpaa
open Go.RowKit

/-- A contract relative to a world. -/
def Ct (w : World) (f : Nat) (args : Array Value) (v : Value) : Prop := ∀ w', Below w.heap.size w w' → Calls Try.prog f args w' fun e w'' => e = .returned v ∧ Below w.heap.size w w''
theorem Ct.of {w : World} {f : Nat} {args : Array Value} {v : Value} (h : ∀ w', Below w.heap.size w w' → Calls Try.prog f args w' fun e w'' => e = .returned v ∧ Below w'.heap.size w' w'') : Ct w f args v :=
  fun w' hb => (h w' hb).mono fun e w'' h2 => ⟨h2.1, hb.trans (h2.2.mono hb.size)⟩
theorem Ct.of_any {w : World} {f : Nat} {args : Array Value} {v : Value} (h : ∀ w', Calls Try.prog f args w' fun e w'' => e = .returned v ∧ Below w'.heap.size w' w'') : Ct w f args v := Ct.of fun w' _ => h w'
theorem Ct.of_same {w : World} {f : Nat} {args : Array Value} {v : Value} (h : ∀ w', Calls Try.prog f args w' fun e w'' => e = .returned v ∧ w' = w'') : Ct w f args v :=
  fun w' hb => (h w').mono fun e w'' h2 => ⟨h2.1, by rw [← h2.2]; exact hb⟩
theorem Ct.rebase {w w1 : World} {f : Nat} {args : Array Value} {v : Value} (h : Ct w f args v) (hb1 : Below w.heap.size w w1) : ∀ w', Below w1.heap.size w1 w' → Calls Try.prog f args w' fun e w'' => e = .returned v ∧ Below w.heap.size w w'' := fun w' hb => h w' (hb1.trans (hb.mono hb1.size))

/-- Run, where it may run. -/
theorem run_ct {w : World} {v : Value} {l : List Ins} (hl : InsRow w w.heap.size v l) (hv : validB l = true) (t : Tr) (ht : t.size ≤ 2000000) (fuel : Nat) (hf : fuel ≤ 10000000) (y : ByteArray) (k : Nat) (er : Int) (hres : (goF l fuel 0 (startS t)).run = (y, k, er)) :
    Ct w 32 #[v, .string (TS t), .int .i64 fuel] (.tuple #[.string y, .int .i64 k, .int .i64 er]) :=
  Ct.of fun w' hb => run_ok v l t ht fuel hf w' ((hl.below hb).mono hb.size) hv y k er hres

theorem awA_new (w : World) : InsRow (w.alloc (.cells #[.int .i64 4, .int .i64 0, .int .i64 0, .int .i64 0, .string ⟨#[]⟩] 52)) (w.alloc (.cells #[.int .i64 4, .int .i64 0, .int .i64 0, .int .i64 0, .string ⟨#[]⟩] 52)).heap.size (.slice (some ⟨w.heap.size, 0, none⟩) 1 1) awA :=
  InsRow.new (w := w) (T := 52) awA (by intro x hx; simp [awA] at hx; subst hx; exact wf_lit _ _ _ _ _ (by unfold i64; decide) (by unfold i64; decide) (by unfold i64; decide) (by unfold i64; decide) (by decide)) (by decide)
theorem awB_new (w : World) : InsRow (w.alloc (.cells #[.int .i64 0, .int .i64 1, .int .i64 0, .int .i64 0, .string ⟨#[49, 48, 48]⟩, .int .i64 5, .int .i64 1, .int .i64 0, .int .i64 0, .string ⟨#[]⟩] 52)) (w.alloc (.cells #[.int .i64 0, .int .i64 1, .int .i64 0, .int .i64 0, .string ⟨#[49, 48, 48]⟩, .int .i64 5, .int .i64 1, .int .i64 0, .int .i64 0, .string ⟨#[]⟩] 52)).heap.size (.slice (some ⟨w.heap.size, 0, none⟩) 2 2) awB :=
  InsRow.new (w := w) (T := 52) awB (by intro x hx; simp [awB] at hx; rcases hx with rfl | rfl <;> exact wf_lit _ _ _ _ _ (by unfold i64; decide) (by unfold i64; decide) (by unfold i64; decide) (by unfold i64; decide) (by decide)) (by decide)
theorem dblP_new (w : World) : InsRow (w.alloc (.cells #[.int .i64 2, .int .i64 0, .int .i64 0, .int .i64 0, .string ⟨#[]⟩, .int .i64 5, .int .i64 0, .int .i64 (-1), .int .i64 0, .string ⟨#[]⟩] 52)) (w.alloc (.cells #[.int .i64 2, .int .i64 0, .int .i64 0, .int .i64 0, .string ⟨#[]⟩, .int .i64 5, .int .i64 0, .int .i64 (-1), .int .i64 0, .string ⟨#[]⟩] 52)).heap.size (.slice (some ⟨w.heap.size, 0, none⟩) 2 2) dblP :=
  InsRow.new (w := w) (T := 52) dblP (by intro x hx; simp [dblP] at hx; rcases hx with rfl | rfl <;> exact wf_lit _ _ _ _ _ (by unfold i64; decide) (by unfold i64; decide) (by unfold i64; decide) (by unfold i64; decide) (by decide)) (by decide)
theorem nil_row (w : World) (B : Nat) : InsRow w B (.slice none 0 0) [] := ⟨by simp, by simp, .inl ⟨rfl, .inl rfl⟩⟩

theorem aw_run1 (w w' : World) (hb : Below w.heap.size w w') : Calls Try.prog 32 #[.slice (some ⟨w'.heap.size, 0, none⟩) 1 1, .string ⟨#[49, 48, 49, 48, 48]⟩, .int .i64 10] (w'.alloc (.cells #[.int .i64 4, .int .i64 0, .int .i64 0, .int .i64 0, .string ⟨#[]⟩] 52)) fun e w'' => e = .returned (.tuple #[.string ⟨#[49, 48, 48]⟩, .int .i64 1, .int .i64 0]) ∧ Below w.heap.size w w'' :=
  (run_ct (awA_new w') awA_valid (.pair .nil (.pair .nil .nil)) (by decide) 10 (by decide) _ _ _ awA_run _ (Below.refl _ _)).mono fun e w'' h => ⟨h.1, (hb.alloc hb.size _).trans (h.2.mono (by have := hb.size; simp; omega))⟩
theorem aw_run2 (w w' : World) (hb : Below w.heap.size w w') : Calls Try.prog 32 #[.slice none 0 0, .string ⟨#[49, 48, 48]⟩, .int .i64 0] w' fun e w'' => e = .returned (.tuple #[.string ⟨#[49, 48, 48]⟩, .int .i64 0, .int .i64 0]) ∧ Below w.heap.size w w'' :=
  (run_ct (nil_row w' _) awN_valid (.pair .nil .nil) (by decide) 0 (by decide) _ _ _ awN_run _ (Below.refl _ _)).mono fun e w'' h => ⟨h.1, hb.trans (h.2.mono hb.size)⟩
theorem aw_run3 (w w' : World) (hb : Below w.heap.size w w') : Calls Try.prog 32 #[.slice (some ⟨w'.heap.size, 0, none⟩) 2 2, .string ⟨#[48]⟩, .int .i64 1000] (w'.alloc (.cells #[.int .i64 0, .int .i64 1, .int .i64 0, .int .i64 0, .string ⟨#[49, 48, 48]⟩, .int .i64 5, .int .i64 1, .int .i64 0, .int .i64 0, .string ⟨#[]⟩] 52)) fun e w'' => e = .returned (.tuple #[.string ⟨#[]⟩, .int .i64 0, .int .i64 7]) ∧ Below w.heap.size w w'' :=
  (run_ct (awB_new w') awB_valid .nil (by decide) 1000 (by decide) _ _ _ awB_run _ (Below.refl _ _)).mono fun e w'' h => ⟨h.1, (hb.alloc hb.size _).trans (h.2.mono (by have := hb.size; simp; omega))⟩

end Go.Proofs.Ytaiomcjopgnfpaa

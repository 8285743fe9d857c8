/- The walks of the laws of narcissuslaw03: RunRuns. -/
import Derived.Test.YtaiomcjopgnfpaaMB4
namespace Go.Proofs.Ytaiomcjopgnfpaa
open Go.RowKit

theorem RMachP.mono {w : World} {T T' g : Nat} {l : List Ins} {pv tv : Value} (h : RMachP w T g l pv tv) (hT : T ≤ T') : RMachP w T' g l pv tv := by
  obtain ⟨xs, base, h1, h2, h3⟩ := h.sets
  exact ⟨h.blk, by have := h.lt; omega, h.prog.mono hT, xs, base, h1, h2, fun k hk => by have := h3 k hk; omega⟩
theorem RMachP.below {w w' : World} {g : Nat} {l : List Ins} {pv tv : Value} (h : RMachP w w.heap.size g l pv tv) (hb : Below w.heap.size w w') : RMachP w' w'.heap.size g l pv tv := (h.kept hb (Kept.below hb)).mono hb.size
theorem run_form_ct {w : World} {v : Value} {l : List Ins} (hl : InsRow w w.heap.size v l) (s : ByteArray) (hs : s.size ≤ 140737488355328) (fuel : Int) (h : validB l = false ∨ isTree s = false) :
    Ct w 32 #[v, .string s, .int .i64 fuel] (.tuple #[.string ⟨#[]⟩, .int .i64 0, .int .i64 1]) :=
  Ct.of fun w' hb => run_bad v l s fuel w' 1 ((hl.below hb).mono hb.size) (.inl rfl) (fun w2 h2 => begin_form v l s fuel w2 h2 hs h)
theorem run_arg_ct {w : World} {v : Value} {l : List Ins} (hl : InsRow w w.heap.size v l) (s : ByteArray) (hs : s.size ≤ 140737488355328) (fuel : Int) (hv : validB l = true) (ht : isTree s = true) (hk : fuel < 0 ∨ 10000000 < fuel) :
    Ct w 32 #[v, .string s, .int .i64 fuel] (.tuple #[.string ⟨#[]⟩, .int .i64 0, .int .i64 2]) :=
  Ct.of fun w' hb => run_bad v l s fuel w' 2 ((hl.below hb).mono hb.size) (.inr rfl) (fun w2 h2 => begin_arg v l s fuel w2 h2 hs hv ht hk)
theorem sameP_self (l : List Ins) : sameP l l = true := by unfold sameP; exact decide_eq_true rfl
theorem same_ct {w : World} {v v' : Value} {l l' : List Ins} (h1 : InsRow w w.heap.size v l) (h2 : InsRow w w.heap.size v' l') (b : Bool) (hb : sameP l l' = b) : Ct w 35 #[v, v'] (.bool b) := fun w' hb' =>
  (sameP_any v v' l l' w' w.heap.size (h1.below hb') (h2.below hb')).mono fun e w'' h => ⟨by rw [← hb]; exact h.1, by obtain ⟨nq, rfl⟩ := h.2; exact below_drewN hb' nq⟩
theorem cvalid_ct {w : World} {v : Value} {l : List Ins} (h1 : InsRow w w.heap.size v l) (b : Bool) (hb : validB l = b) : Ct w 22 #[v] (.bool b) := Ct.of fun w' hb' => by
  rw [← hb]; exact refValidP_any v l w' ((h1.below hb').mono hb'.size)
theorem tvalid_ct {w : World} (s : ByteArray) (hs : s.size ≤ 140737488355328) (b : Bool) (hb : isTree s = b) : Ct w 27 #[.string s] (.bool b) := Ct.of_same fun w' => by
  rw [← hb]; exact refValid_any s (by omega) w'
/-- The reference's machine, loaded; a tree, read; what it returns. -/
theorem load_ct {w : World} {v : Value} {l : List Ins} (hl : InsRow w w.heap.size v l) (hv : validB l = true) : ∀ w', Below w.heap.size w w' → Calls Try.prog 55 #[v] w' fun e w'' => ∃ gm tv, e = .returned (.pointer (some ⟨gm, 0, none⟩)) ∧ Hid (RMachP w'' w''.heap.size gm l v tv) ∧ Below w.heap.size w w'' := fun w' hb =>
  (load_any v l w' ((hl.below hb).mono hb.size) hv).mono fun _e _w'' ⟨gm, tv, h1, h2, h3⟩ => ⟨gm, tv, h1, h2, hb.trans (h3.mono hb.size)⟩
theorem read_ct {w : World} (t : Tr) (ht : t.size ≤ 2000000) : ∀ w', Below w.heap.size w w' → Calls Try.prog 50 #[.string (TS t)] w' fun e w'' => ∃ q, e = .returned (.pointer q) ∧ Hid (NodeP 69 w'' t (.pointer q) ∧ Below w'.heap.size w' w'') ∧ Below w.heap.size w w'' := fun w' hb =>
  (read_ok t ht w').mono fun _e _w'' ⟨q, h1, h2, h3⟩ => ⟨q, h1, ⟨h2, h3⟩, hb.trans (h3.mono hb.size)⟩
theorem rrun_ct {w w' : World} {gm : Nat} {l : List Ins} {pv tv : Value} {t : Tr} {q : Option Addr} {K : Nat} (hK : K ≤ 100000000) (hm : RMachP w' w'.heap.size gm l pv tv) (hx : NodeP 69 w' t (.pointer q)) (ht : t.size ≤ 2000000) (hv : validB l = true) (y : Tr) (n : Nat) (er : Int) (hr : (goF l K 0 (startS t)).rrun = (y, n, er)) (hb : Below w.heap.size w w') :
    Calls Try.prog 56 #[.pointer (some ⟨gm, 0, none⟩), .pointer q, .int .i64 K] w' fun e w'' => ∃ q', e = .returned (.tuple #[.pointer q', .int .i64 n, .int .i64 er]) ∧ Hid (NodeP 69 w'' y (.pointer q')) ∧ Below w.heap.size w w'' := by
  have := rrun_any w' gm l pv tv t _ K hK hm hx ht (validB_all hv) (validB_len hv)
  rw [hr] at this
  exact this.mono fun e w'' ⟨q', h1, h2, h3⟩ => ⟨q', h1, h2, hb.trans (h3.mono hb.size)⟩
theorem text_ct {w w' : World} {t : Tr} {q : Option Addr} (hx : NodeP 69 w' t (.pointer q)) (ht : t.size ≤ 2000000) (hb : Below w.heap.size w w') :
    Calls Try.prog 101 #[.pointer q] w' fun e w'' => e = .returned (.string (TS t)) ∧ Below w.heap.size w w'' :=
  (rnodeText_any t _ w' hx (by omega)).mono fun e w'' h => ⟨h.1, hb.trans (h.2.mono hb.size)⟩

end Go.Proofs.Ytaiomcjopgnfpaa


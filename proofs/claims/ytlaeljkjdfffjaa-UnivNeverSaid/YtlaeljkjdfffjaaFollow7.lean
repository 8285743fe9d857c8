/- law07's Coded and Follows. -/
import Derived.Test.YtlaeljkjdfffjaaMB4
import Derived.Test.YtlaeljkjdfffjaaMB1
import Derived.Test.YtlaeljkjdfffjaaEqual
namespace Go.Proofs.Ytlaeljkjdfffjaa
open Go.RowKit

theorem mach_lift {w w' : World} {g : Nat} {l : List Ins} {pv tv : Value} (h : RMachP w w.heap.size g l pv tv) (hb : Below w.heap.size w w') : RMachP w' w'.heap.size g l pv tv := by
  have h1 := h.kept hb (Kept.below hb)
  exact ⟨h1.blk, Nat.lt_of_lt_of_le h1.lt hb.size, h1.prog.mono hb.size, by
    obtain ⟨xs, base, h2, h3, h4⟩ := h1.sets
    exact ⟨xs, base, h2, h3, fun k hk => Nat.lt_of_lt_of_le (h4 k hk) hb.size⟩⟩
theorem rrun_fuel {w : World} {gm : Nat} {l : List Ins} {pv tv x : Value} {t : Tr} {s : St} {m : Nat} (k : Nat) (K : Int) (hKk : K = k) (hK : k ≤ 100000000) (hR : goF l k 0 (startS t) = .fuel s m) (hm : RMachP w w.heap.size gm l pv tv) (hx : NodeP 58 w t x) (ht : t.size ≤ 2000000) (hv : validB l = true) :
    Calls Try.prog 36 #[.pointer (some ⟨gm, 0, none⟩), x, .int .i64 K] w (RRunOut w .nil 0 7) := by
  subst hKk
  have := rrun_any w gm l pv tv t x k hK hm hx ht (validB_all hv) (validB_len hv)
  rw [hR] at this
  exact this
theorem rrun_big {w : World} {gm : Nat} {l : List Ins} {pv tv x : Value} {t : Tr} (k : Nat) (K : Int) (hKk : K = k) (hK : k ≤ 100000000) (hR : goF l k 0 (startS t) = .big) (hm : RMachP w w.heap.size gm l pv tv) (hx : NodeP 58 w t x) (ht : t.size ≤ 2000000) (hv : validB l = true) :
    Calls Try.prog 36 #[.pointer (some ⟨gm, 0, none⟩), x, .int .i64 K] w (RRunOut w .nil 0 3) := by
  subst hKk
  have := rrun_any w gm l pv tv t x k hK hm hx ht (validB_all hv) (validB_len hv)
  rw [hR] at this
  exact this
theorem read_code (l : List Ins) (hv : validB l = true) (hs : codeN l ≤ 2000000) (w : World) :
    Calls Try.prog 33 #[.string (codeOf l)] w fun e w' => ∃ p, e = .returned (.pointer p) ∧ NodeP 58 w' (codeT l) (.pointer p) ∧ Below w.heap.size w w' := by
  rw [codeOf_TS (validB_all hv)]
  exact read_ok (codeT l) (by rw [codeT_size hv]; exact hs) w
end Go.Proofs.Ytlaeljkjdfffjaa


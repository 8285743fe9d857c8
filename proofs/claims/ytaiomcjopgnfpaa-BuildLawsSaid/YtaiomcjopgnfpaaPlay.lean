/- law04's play: a run of a program that is composed, by the runs of its parts. -/
import Derived.Test.YtaiomcjopgnfpaaAwake4
import Derived.Test.YtaiomcjopgnfpaaRunsP
namespace Go.Proofs.Ytaiomcjopgnfpaa
open Go.RowKit

/-- A play in memory. -/
def Bx (w : World) (b : Nat) (X : ByteArray) (S : Nat) (E : Int) : Prop := w.heap[b]? = some (.cells #[.string X, .int .i64 S, .int .i64 E] 40 (0, 0))
theorem Bx.lt {w : World} {b S : Nat} {X : ByteArray} {E : Int} (h : Bx w b X S E) : b < w.heap.size := (Array.getElem?_eq_some_iff.1 h).1
theorem Bx.below {w w' : World} {b S : Nat} {X : ByteArray} {E : Int} (h : Bx w b X S E) (hb : Below w.heap.size w w') : Bx w' b X S E := (hb.block b h.lt).trans h
def otherS (n S : Nat) (E : Int) : Nat := if E = 0 then S + n else S
def partF (l : List Ins) (S : Nat) (E : Int) (x : ByteArray) : ByteArray × Nat × Int :=
  if E = 0 then ((partR l 2000 (toTr x)).run.1, S + (partR l 2000 (toTr x)).run.2.1 + (if (partR l 2000 (toTr x)).run.2.2 = 0 then 0 else 2000), (partR l 2000 (toTr x)).run.2.2) else (⟨#[]⟩, S, E)

theorem Bx.steps {w : World} {b S : Nat} {X : ByteArray} {E : Int} (h : Bx w b X S E) (S' : Nat) (n : Int) (hn : n = (S' : Int)) : Bx (w.setCell ⟨b, 1, none⟩ (.int .i64 n)) b X S' E := by subst hn; exact set_blk h 1 _
theorem Bx.err {w : World} {b S : Nat} {X : ByteArray} {E : Int} (h : Bx w b X S E) (E' : Int) : Bx (w.setCell ⟨b, 2, none⟩ (.int .i64 E')) b X S E' := set_blk h 2 _
theorem Bx.tree {w : World} {b S : Nat} {X : ByteArray} {E : Int} (h : Bx w b X S E) (X' : ByteArray) : Bx (w.setCell ⟨b, 0, none⟩ (.string X')) b X' S E := set_blk h 0 _
theorem Bx.cells {w : World} {b S : Nat} {X : ByteArray} {E : Int} (h : Bx w b X S E) : w.cell? ⟨b, 0, none⟩ = some (.string X) ∧ w.cell? ⟨b, 1, none⟩ = some (.int .i64 S) ∧ w.cell? ⟨b, 2, none⟩ = some (.int .i64 E) ∧ w.frozen? ⟨b, 0, none⟩ = false ∧ w.frozen? ⟨b, 1, none⟩ = false ∧ w.frozen? ⟨b, 2, none⟩ = false := by
  have c0 := (block_cells h).1 0
  have c1 := (block_cells h).1 1
  have c2 := (block_cells h).1 2
  simp only [List.getElem?_toArray, List.getElem?_cons_zero, List.getElem?_cons_succ] at c0 c1 c2
  exact ⟨c0, c1, c2, (block_cells h).2 0, (block_cells h).2 1, (block_cells h).2 2⟩

set_option maxRecDepth 20000 in
set_option maxHeartbeats 1000000 in
theorem other_any (w : World) (b : Nat) (X : ByteArray) (S n : Nat) (E : Int) (hS : S + n ≤ 1000000000) (hB : Bx w b X S E) :
    Calls Try.prog 29 #[.pointer (some ⟨b, 0, none⟩), .int .i64 n] w fun e w' => e = .returned (.tuple #[]) ∧ Bx w' b X (otherS n S E) E ∧ Below b w w' := by
  obtain ⟨c0, c1, c2, f0, f1, f2⟩ := hB.cells
  have HB := Lib.hid hB
  clear hB
  have hi : (S : Int) + (n : Int) ≤ 1000000000 := by omega
  have hi0 : (0 : Int) ≤ (S : Int) + (n : Int) := by omega
  by_cases hE : E = 0
  · have hE0 : otherS n S E = S + n := by unfold otherS; rw [if_pos hE]
    rw [hE0]
    clear hE0
    subst hE
    go_enter Try.func29, Try.ntmps29
    go_wp2
    refine bodyPost_end (v := .tuple #[]) (by simp [results, Try.results29, go_sem]) rfl ?_
    exact ⟨rfl, HB.out.steps _ _ (by omega), (Below.refl _ _).setCell (p := ⟨b, 1, none⟩) (Nat.le_refl _) _⟩
  · have hE0 : otherS n S E = S := by unfold otherS; rw [if_neg hE]
    rw [hE0]
    clear hE0
    go_enter Try.func29, Try.ntmps29
    go_wp2
    refine bodyPost_end (v := .tuple #[]) (by simp [results, Try.results29, go_sem]) rfl ?_
    exact ⟨rfl, HB.out, Below.refl _ _⟩

theorem res_run_cases (r : Res) : (r.run.2.2 = 0) ∨ (r.run = (⟨#[]⟩, 0, 7)) ∨ (r.run = (⟨#[]⟩, 0, 3)) := by cases r <;> simp [Res.run]
theorem goF_steps_le (l : List Ins) (F : Nat) (s : St) : (goF l F 0 s).run.2.1 ≤ F := by
  rcases goF_how l F 0 s with ⟨t, m, h1, h2, _⟩ | ⟨t, h1, _⟩ | ⟨t, m, h1, _⟩
  · rw [h1]; show 0 + m ≤ F; omega
  · rw [h1]; exact Nat.zero_le _
  · rw [h1]; exact Nat.zero_le _

set_option maxRecDepth 20000 in
set_option maxHeartbeats 4000000 in
theorem part_any (w : World) (b : Nat) (X : ByteArray) (S : Nat) (E : Int) (hS : S ≤ 1000000000) (hB : Bx w b X S E) (v : Value) (l : List Ins) (x : ByteArray) (hl : InsRow w b v l) (hv : validB l = true) (hx : E = 0 → isTree x = true) :
    Calls Try.prog 38 #[.pointer (some ⟨b, 0, none⟩), v, .string x] w fun e w' => e = .returned (.string (partF l S E x).1) ∧ Bx w' b X (partF l S E x).2.1 (partF l S E x).2.2 ∧ Below b w w' := by
  obtain ⟨c0, c1, c2, f0, f1, f2⟩ := hB.cells
  have hlt := Nat.le_of_lt hB.lt
  have HB := Lib.hid hB
  have HL := Lib.hid hl
  clear hB hl
  by_cases hE : E = 0
  · have hxx := hx hE
    have hle := goF_steps_le l 2000 (startS (toTr x))
    have hcase := res_run_cases (goF l 2000 0 (startS (toTr x)))
    obtain ⟨y, m, er, hr⟩ : ∃ y m er, (goF l 2000 0 (startS (toTr x))).run = (y, m, er) := ⟨_, _, _, rfl⟩
    have hp : partF l S E x = (y, S + m + (if er = 0 then 0 else 2000), er) := by
      unfold partF partR; rw [if_pos hE, hr]
    rw [hp]
    rw [hr] at hle hcase
    simp only at hle hcase
    have hr0 : Hid (er ≠ 0 → m = 0) := Lib.hid (fun h => by
      rcases hcase with h1 | h1 | h1
      · exact absurd h1 h
      · simp only [Prod.mk.injEq] at h1; exact h1.2.1
      · simp only [Prod.mk.injEq] at h1; exact h1.2.1)
    have kr := Lib.hid (fun (w : World) (u : Value) (h : InsRow w w.heap.size u l) => runOk_at (w := w) (v := u) 2000 2000 y m er hr hv (toTr_size x) (TS_toTr hxx) rfl (by decide) h)
    have hi : (S : Int) + (m : Int) ≤ 2000000000 := by omega
    have hi0 : (0 : Int) ≤ (S : Int) + (m : Int) := by omega
    obtain ⟨S', hS'⟩ : ∃ S', S + m + (if er = 0 then 0 else 2000) = S' := ⟨_, rfl⟩
    rw [hS']
    have HS' := Lib.hid hS'
    subst hE
    clear hp hcase hr hx hxx hS'
    go_enter Try.func38, Try.ntmps38
    go_wp2_with fail
    refine (twin_any v l _ (HL.out.mono hlt)).mono ?_
    rintro e w1 ⟨v', rfl, hv', hb1⟩
    go_wp2_with fail
    refine (kr.out _ _ hv').mono ?_
    rintro e w2 ⟨rfl, hb2⟩
    have hb := hb1.trans (hb2.mono hb1.size)
    have HB2 := Lib.hid (HB.out.below hb)
    obtain ⟨c0, c1, c2, f0, f1, f2⟩ := HB2.out.cells
    have HBB := Lib.hid (hb.mono hlt)
    clear hb1 hb2 hb hv' kr
    by_cases he : er = 0
    · subst he
      go_wp2
      go_ret
      exact ⟨rfl, (HB2.out.err 0).steps _ _ (by have h1 := HS'.out; simp at h1; omega), (HBB.out.setCell (p := ⟨b, 2, none⟩) (Nat.le_refl _) _).setCell (p := ⟨b, 1, none⟩) (Nat.le_refl _) _⟩
    · have hm := hr0.out he
      subst hm
      go_wp2
      go_ret
      exact ⟨rfl, ((HB2.out.err er).steps S _ (by omega)).steps _ _ (by have h1 := HS'.out; simp [he] at h1; omega), ((HBB.out.setCell (p := ⟨b, 2, none⟩) (Nat.le_refl _) _).setCell (p := ⟨b, 1, none⟩) (Nat.le_refl _) _).setCell (p := ⟨b, 1, none⟩) (Nat.le_refl _) _⟩
  · have hp : partF l S E x = (⟨#[]⟩, S, E) := by unfold partF; rw [if_neg hE]
    rw [hp]
    clear hp hx
    go_enter Try.func38, Try.ntmps38
    go_wp2
    go_ret
    exact ⟨rfl, HB.out, Below.refl _ _⟩

def cleanF (l : List Ins) (S : Nat) (E : Int) (x : ByteArray) : ByteArray × Nat × Int := partF l (otherS (mostN l) S E) E x
set_option maxRecDepth 20000 in
set_option maxHeartbeats 4000000 in
theorem cleaned_any (w : World) (b : Nat) (X : ByteArray) (S : Nat) (E : Int) (hS : S ≤ 900000000) (hB : Bx w b X S E) (v : Value) (l : List Ins) (x : ByteArray) (hl : InsRow w b v l) (hv : validB l = true) (hx : E = 0 → isTree x = true) :
    Calls Try.prog 30 #[.pointer (some ⟨b, 0, none⟩), v, .string x] w fun e w' => e = .returned (.string (cleanF l S E x).1) ∧ Bx w' b X (cleanF l S E x).2.1 (cleanF l S E x).2.2 ∧ Below b w w' := by
  have hlt := Nat.le_of_lt hB.lt
  have hm := mostN_lt32 (validB_all hv)
  have kg := refRegs_ok v l w (hl.mono hlt) hv
  obtain ⟨m, hmm⟩ : ∃ m, mostN l = m := ⟨_, rfl⟩
  have hR : ((regN l : Nat) : Int) = (m : Int) + 1 := by unfold regN; omega
  rw [hR] at kg
  have hi : (m : Int) + 1 - 1 = (m : Int) := by omega
  rw [hmm] at hm
  unfold cleanF
  rw [hmm]
  have hS2 : otherS m S E ≤ 1000000000 := by unfold otherS; split <;> omega
  have HB := Lib.hid hB
  have HL := Lib.hid hl
  have ko := Lib.hid (fun (w : World) (h : Bx w b X S E) => other_any w b X S m E (by omega) h)
  have kp := Lib.hid (fun (w : World) (h : Bx w b X (otherS m S E) E) (h2 : InsRow w b v l) => part_any w b X (otherS m S E) E hS2 h v l x h2 hv hx)
  obtain ⟨S2, hs2⟩ : ∃ S2, otherS m S E = S2 := ⟨_, rfl⟩
  rw [hs2] at ko kp ⊢
  clear hB hl hx hR hs2 hS2 hmm
  go_enter Try.func30, Try.ntmps30
  go_wp2_with fail
  refine kg.mono ?_
  rintro e w1 ⟨rfl, hb1⟩
  have HB1 := Lib.hid (HB.out.below hb1)
  have hb := hb1.mono hlt
  have HL1 := Lib.hid (HL.out.below hb)
  have HBB := Lib.hid hb
  clear hb hb1 kg
  go_wp2_with fail
  refine (ko.out _ HB1.out).mono ?_
  rintro e w2 ⟨rfl, h2, hb2⟩
  have HB2 := Lib.hid h2
  have HL2 := Lib.hid (HL1.out.below hb2)
  have HBB := Lib.hid (HBB.out.trans hb2)
  clear hb2 h2
  go_wp2_with fail
  refine (kp.out _ HB2.out HL2.out).mono ?_
  rintro e w3 ⟨rfl, h3, hb3⟩
  have HB3 := Lib.hid h3
  have HBB := Lib.hid (HBB.out.trans hb3)
  clear hb3 h3
  go_wp2
  go_ret
  exact ⟨rfl, HB3.out, HBB.out⟩

/-- What the play says at its end. -/
def Ended (P : List Ins) (s0 : St) (S : Nat) (E : Int) (X : ByteArray) : Prop := (E = 0 → (goF P S 0 s0).run = (X, S, 0)) ∧ (E ≠ 0 → (goF P S 0 s0).run = (⟨#[]⟩, 0, E))
set_option maxRecDepth 20000 in
set_option maxHeartbeats 4000000 in
theorem ends_any (w : World) (b : Nat) (X : ByteArray) (S : Nat) (E : Int) (hS : S ≤ 10000000) (hB : Bx w b X S E) (v : Value) (P : List Ins) (x : ByteArray) (hl : InsRow w b v P) (hv : validB P = true) (hx : isTree x = true) (hend : Ended P (startS (toTr x)) S E X) :
    Calls Try.prog 31 #[.pointer (some ⟨b, 0, none⟩), v, .string x] w fun e w' => e = .returned (.bool true) ∧ Below b w w' := by
  obtain ⟨c0, c1, c2, f0, f1, f2⟩ := hB.cells
  have hlt := Nat.le_of_lt hB.lt
  have HB := Lib.hid hB
  have HL := Lib.hid hl
  obtain ⟨y, m, er, hr, hE1, hE2⟩ : ∃ y m er, (goF P S 0 (startS (toTr x))).run = (y, m, er) ∧ (E = 0 → y = X ∧ m = S ∧ er = 0) ∧ (E ≠ 0 → er = E) := by
    by_cases h : E = 0
    · exact ⟨X, S, 0, hend.1 h, fun _ => ⟨rfl, rfl, rfl⟩, fun e => absurd h e⟩
    · exact ⟨_, _, _, hend.2 h, fun e => absurd e h, fun _ => rfl⟩
  have kr := Lib.hid (fun (w' : World) (u : Value) (h : InsRow w' w'.heap.size u P) (hb : Below w.heap.size w w') => (runOk_at (w := w') (v := u) S (S : Int) y m er hr hv (toTr_size x) (TS_toTr hx) rfl hS h).mono fun e w'' h => (show e = .returned (.tuple #[.string y, .int .i64 m, .int .i64 er]) ∧ Below w.heap.size w w'' from ⟨h.1, hb.trans (h.2.mono hb.size)⟩))
  have kt := Lib.hid (fun (w' : World) (hb : Below w.heap.size w w') => (twin_any v P w' (((HL.out.mono hlt).below hb).mono hb.size)).mono fun e w'' h => (show ∃ v', e = .returned v' ∧ Hid (InsRow w'' w''.heap.size v' P) ∧ Below w.heap.size w w'' from by
    obtain ⟨v', h1, h2, h3⟩ := h
    exact ⟨v', h1, Lib.hid h2, hb.trans (h3.mono hb.size)⟩))
  have kk := Lib.hid (fun (w' : World) (hb : Below w.heap.size w w') => (HB.out.below hb).cells.2.1)
  clear hB hl hr hend hx
  go_enter Try.func31, Try.ntmps31
  go_wp2
  go_region_held3 (fun w' => w'.cell? ⟨b, 1, none⟩ = some (.int .i64 S))
    (with_reducible (first | exact kk.out _ hb2 | exact kk.out _ hb1 | exact kk.out _ (Below.refl _ _) | exact kk.out _ (Below.refl _ _).drew | fail "keep"))
    ((first | ((with_reducible refine (kt.out _ (by first | exact Below.refl _ _ | exact (Below.refl _ _).drew)).mono ?_); rintro e w1 ⟨v', rfl, hv', hb1⟩) | ((with_reducible refine (kr.out _ _ hv'.out hb1).mono ?_); rintro e w2 ⟨rfl, hb2⟩) | (fail "arm")))
  all_goals (
  have HB2 := (HB.out.below hb2).cells
  obtain ⟨d0, d1, d2, g0, g1, g2⟩ := HB2
  by_cases hE : E = 0
  · obtain ⟨rfl, rfl, rfl⟩ := hE1 hE
    subst hE
    go_wp2
    go_ret
    exact ⟨rfl, hb2.mono hlt⟩
  · have he := hE2 hE
    subst he
    go_wp2
    go_ret
    exact ⟨rfl, hb2.mono hlt⟩)

end Go.Proofs.Ytaiomcjopgnfpaa


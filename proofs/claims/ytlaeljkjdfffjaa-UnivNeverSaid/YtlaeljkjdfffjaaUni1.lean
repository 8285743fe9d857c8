/- univ: the writer of the universal program in memory; asm's methods, said of it; name. -/
import Derived.Laws.IdiomStrings
import Derived.Test.YtlaeljkjdfffjaaAsm3
import Derived.Test.YtlaeljkjdfffjaaUnivG
namespace Go.Proofs.Ytlaeljkjdfffjaa
open Go.RowKit Go.Maps

theorem UnG.put_sz (g : UnG) (x : Ins) : (g.put x).a.sz = g.a.sz + 1 := by unfold AsmG.sz UnG.put UnG.up AsmG.put; simp; omega
theorem UnG.here_sz (g : UnG) (s : ByteArray) : (g.here s).a.sz = g.a.sz + 1 := by unfold AsmG.sz UnG.here UnG.up AsmG.here; simp; omega
theorem UnG.jump_sz (g : UnG) (a : Nat) (s : ByteArray) : (g.jump a s).a.sz = g.a.sz + 2 := by unfold AsmG.sz UnG.jump UnG.up AsmG.jump AsmG.want AsmG.put; simp; omega
theorem UnG.leap_sz (g : UnG) (s : ByteArray) : (g.leap s).a.sz = g.a.sz + 2 := UnG.jump_sz g 14 s
theorem UnG.step_sz (g : UnG) (k : Nat) : (g.step k).a.sz = g.a.sz := rfl
theorem UnG.put_n (g : UnG) (x : Ins) : (g.put x).n = g.n := rfl
theorem UnG.here_n (g : UnG) (s : ByteArray) : (g.here s).n = g.n := rfl
theorem UnG.jump_n (g : UnG) (a : Nat) (s : ByteArray) : (g.jump a s).n = g.n := rfl
theorem UnG.leap_n (g : UnG) (s : ByteArray) : (g.leap s).n = g.n := rfl
theorem UnG.step_n (g : UnG) (k : Nat) : (g.step k).n = g.n + k := rfl
/-- What a part of the writer adds. -/
structure AddsU (f : UnG → UnG) (k m : Nat) : Prop where
  sz : ∀ g, (f g).a.sz = g.a.sz + k
  n : ∀ g, (f g).n = g.n + m
theorem UnG.count_adds {f : UnG → UnG} {k m : Nat} (h : AddsU f k m) : AddsU (UnG.count f) (k + 10) (m + 3) :=
  ⟨fun g => by unfold UnG.count; simp only [UnG.here_sz, UnG.leap_sz, UnG.put_sz, h.sz, UnG.jump_sz, UnG.step_sz]; omega, fun g => by unfold UnG.count; simp only [UnG.here_n, UnG.leap_n, UnG.put_n, h.n, UnG.jump_n, UnG.step_n]; omega⟩
theorem UnG.kind_adds {f : UnG → UnG} {k m : Nat} (h : AddsU f k m) (s : ByteArray) : AddsU (UnG.kind f s) (k + 6) (m + 1) :=
  ⟨fun g => by unfold UnG.kind; simp only [UnG.here_sz, UnG.leap_sz, UnG.put_sz, h.sz, UnG.jump_sz, UnG.step_sz]; omega, fun g => by unfold UnG.kind; simp only [UnG.here_n, UnG.leap_n, UnG.put_n, h.n, UnG.jump_n, UnG.step_n]; omega⟩
theorem put_adds (x : Ins) : AddsU (fun g => g.put x) 1 0 := ⟨fun g => UnG.put_sz g x, fun _g => rfl⟩
theorem fetch_adds (t : Nat) : AddsU (UnG.fetch t) 13 3 := by
  have h := UnG.count_adds (put_adds (tlI 11 11))
  exact ⟨fun g => by unfold UnG.fetch; simp only [UnG.put_sz, h.sz], fun g => by unfold UnG.fetch; simp only [UnG.put_n, h.n]⟩
theorem storeF_adds : AddsU (fun g => ((g.put (hdI 13 11)).put (consI 12 13 12)).put (tlI 11 11)) 3 0 := ⟨fun g => by simp only [UnG.put_sz], fun g => rfl⟩
theorem storeA_adds : AddsU UnG.storeA 18 3 := by
  have h := UnG.count_adds storeF_adds
  exact ⟨fun g => by unfold UnG.storeA; simp only [UnG.put_sz, h.sz], fun g => by unfold UnG.storeA; simp only [UnG.put_n, h.n]⟩
theorem storeB_adds : AddsU UnG.storeB 13 3 := ⟨fun g => by unfold UnG.storeB; simp only [UnG.put_sz, UnG.here_sz, UnG.leap_sz, UnG.jump_sz, UnG.step_sz], fun g => by unfold UnG.storeB; simp only [UnG.put_n, UnG.here_n, UnG.leap_n, UnG.jump_n, UnG.step_n]⟩
theorem store_adds : AddsU UnG.store 31 6 := ⟨fun g => by unfold UnG.store; rw [storeB_adds.sz, storeA_adds.sz], fun g => by unfold UnG.store; rw [storeB_adds.n, storeA_adds.n]⟩
theorem next_adds : AddsU UnG.next 3 0 := ⟨fun g => by unfold UnG.next; simp only [UnG.put_sz], fun g => rfl⟩
theorem get_adds : AddsU UnG.get 14 3 := ⟨fun g => by unfold UnG.get; rw [(fetch_adds 8).sz, UnG.put_sz], fun g => by unfold UnG.get; rw [(fetch_adds 8).n, UnG.put_n]⟩
theorem k2_adds : AddsU UnG.k2 29 6 := ⟨fun g => by unfold UnG.k2; simp only [UnG.put_sz, (fetch_adds 8).sz, (fetch_adds 9).sz], fun g => by unfold UnG.k2; simp only [UnG.put_n, (fetch_adds 8).n, (fetch_adds 9).n]⟩
theorem k3_adds : AddsU UnG.k3 15 3 := ⟨fun g => by unfold UnG.k3; rw [UnG.put_sz, get_adds.sz], fun g => by unfold UnG.k3; rw [UnG.put_n, get_adds.n]⟩
theorem k4_adds : AddsU UnG.k4 15 3 := ⟨fun g => by unfold UnG.k4; rw [UnG.put_sz, get_adds.sz], fun g => by unfold UnG.k4; rw [UnG.put_n, get_adds.n]⟩
/-- The writer in memory. -/
structure UnW (w : World) (B bw ba b1 b2 : Nat) (g : UnG) : Prop where
  blk : w.heap[bw]? = some (.cells #[.pointer (some ⟨ba, 0, none⟩), .int .i64 (g.n : Nat)] 90 (0, 0))
  asm : AsmW w B ba b1 b2 g.a
  le : B ≤ bw
structure UChg (B : Nat) (w w' : World) : Prop where
  below : Below B w w'
  kept : ∀ T, T ≠ 41 → T ≠ 158 → T ≠ 90 → Kept T w w'
theorem UChg.refl (B : Nat) (w : World) : UChg B w w := ⟨Below.refl _ _, fun T _ _ _ => Kept.refl T w⟩
theorem UChg.trans {B : Nat} {a b c : World} (h : UChg B a b) (k : UChg B b c) : UChg B a c := ⟨h.below.trans k.below, fun T h1 h2 h3 => (h.kept T h1 h2 h3).trans (k.kept T h1 h2 h3)⟩
theorem UChg.of_below {B : Nat} {a b : World} (h : Below a.heap.size a b) (hB : B ≤ a.heap.size) : UChg B a b := ⟨h.mono hB, fun _ _ _ _ => Kept.below h⟩
theorem AChg.uchg {B : Nat} {a b : World} (h : AChg B a b) : UChg B a b := ⟨h.below, fun T h1 h2 _ => h.kept T h1 h2⟩
/-- The box of a variable that points to the writer. -/
def BoxW (w : World) (bx bw : Nat) : Prop := w.heap[bx]? = some (.cells #[.pointer (some ⟨bw, 0, none⟩)] 86 (0, 0))
theorem BoxW.chg {B : Nat} {w w' : World} {bx bw : Nat} (h : BoxW w bx bw) (hc : UChg B w w') : BoxW w' bx bw := hc.kept 86 (by decide) (by decide) (by decide) _ _ h
theorem BoxW.cell {w : World} {bx bw : Nat} (h : BoxW w bx bw) : w.cell? ⟨bx, 0, none⟩ = some (.pointer (some ⟨bw, 0, none⟩)) := (block_cells h).1 0
theorem UnW.cell {w : World} {B bw ba b1 b2 : Nat} {g : UnG} (h : UnW w B bw ba b1 b2 g) : w.cell? ⟨bw, 0, none⟩ = some (.pointer (some ⟨ba, 0, none⟩)) := (block_cells h.blk).1 0
theorem UnW.lt {w : World} {B bw ba b1 b2 : Nat} {g : UnG} (h : UnW w B bw ba b1 b2 g) : bw < w.heap.size := (Array.getElem?_eq_some_iff.1 h.blk).1
theorem UnW.below {w w' : World} {B bw ba b1 b2 : Nat} {g : UnG} (h : UnW w B bw ba b1 b2 g) (hb : Below w.heap.size w w') : UnW w' B bw ba b1 b2 g := ⟨(hb.block _ h.lt).trans h.blk, h.asm.below hb, h.le⟩
def UOut (w : World) (B bw ba b1 b2 : Nat) (g : UnG) (e : Ending) (w' : World) : Prop := e = .returned (.tuple #[]) ∧ UnW w' B bw ba b1 b2 g ∧ UChg B w w'
theorem uout_of {w : World} {B bw ba b1 b2 : Nat} {g : UnG} (h : UnW w B bw ba b1 b2 g) (f : AsmG → AsmG) {e : Ending} {w' : World} (ho : AOut w B ba b1 b2 (f g.a) e w') : UOut w B bw ba b1 b2 (g.up f) e w' :=
  ⟨ho.1, ⟨ho.2.2.kept 90 (by decide) (by decide) _ _ h.blk, ho.2.1, h.le⟩, ho.2.2.uchg⟩

theorem uset_any {w : World} {B bw ba b1 b2 : Nat} {g : UnG} (h : UnW w B bw ba b1 b2 g) (a : Nat) (t : ByteArray) (ha : a ≤ 1000) (ht : t.size ≤ 1000) (hg : g.a.sz ≤ 900000) :
    Calls Try.prog 67 #[.pointer (some ⟨ba, 0, none⟩), .int .i64 a, .string t] w (UOut w B bw ba b1 b2 (g.put (setI a t))) := (aset_any h.asm a t ha ht (by omega)).mono fun _ _ ho => uout_of h _ ho

theorem umove_any {w : World} {B bw ba b1 b2 : Nat} {g : UnG} (h : UnW w B bw ba b1 b2 g) (a b : Nat) (ha : a ≤ 1000) (hb : b ≤ 1000) (hg : g.a.sz ≤ 900000) :
    Calls Try.prog 65 #[.pointer (some ⟨ba, 0, none⟩), .int .i64 a, .int .i64 b] w (UOut w B bw ba b1 b2 (g.put (moveI a b))) := (amove_any h.asm a b ha hb (by omega)).mono fun _ _ ho => uout_of h _ ho

theorem ucons_any {w : World} {B bw ba b1 b2 : Nat} {g : UnG} (h : UnW w B bw ba b1 b2 g) (a b c : Nat) (ha : a ≤ 1000) (hb : b ≤ 1000) (hc : c ≤ 1000) (hg : g.a.sz ≤ 900000) :
    Calls Try.prog 66 #[.pointer (some ⟨ba, 0, none⟩), .int .i64 a, .int .i64 b, .int .i64 c] w (UOut w B bw ba b1 b2 (g.put (consI a b c))) := (acons_any h.asm a b c ha hb hc (by omega)).mono fun _ _ ho => uout_of h _ ho

theorem uhead_any {w : World} {B bw ba b1 b2 : Nat} {g : UnG} (h : UnW w B bw ba b1 b2 g) (a b : Nat) (ha : a ≤ 1000) (hb : b ≤ 1000) (hg : g.a.sz ≤ 900000) :
    Calls Try.prog 63 #[.pointer (some ⟨ba, 0, none⟩), .int .i64 a, .int .i64 b] w (UOut w B bw ba b1 b2 (g.put (hdI a b))) := (ahead_any h.asm a b ha hb (by omega)).mono fun _ _ ho => uout_of h _ ho

theorem utail_any {w : World} {B bw ba b1 b2 : Nat} {g : UnG} (h : UnW w B bw ba b1 b2 g) (a b : Nat) (ha : a ≤ 1000) (hb : b ≤ 1000) (hg : g.a.sz ≤ 900000) :
    Calls Try.prog 64 #[.pointer (some ⟨ba, 0, none⟩), .int .i64 a, .int .i64 b] w (UOut w B bw ba b1 b2 (g.put (tlI a b))) := (atail_any h.asm a b ha hb (by omega)).mono fun _ _ ho => uout_of h _ ho

theorem uhere_any {w : World} {B bw ba b1 b2 : Nat} {g : UnG} (h : UnW w B bw ba b1 b2 g) (s : ByteArray) (hs : s.size ≤ 1000000) (hg : g.a.sz ≤ 900000) :
    Calls Try.prog 68 #[.pointer (some ⟨ba, 0, none⟩), .string s] w (UOut w B bw ba b1 b2 (g.here s)) := (ahere_any h.asm s hs (by omega)).mono fun _ _ ho => uout_of h _ ho

theorem ujump_any {w : World} {B bw ba b1 b2 : Nat} {g : UnG} (h : UnW w B bw ba b1 b2 g) (a : Nat) (s : ByteArray) (ha : a ≤ 1000) (hs : s.size ≤ 1000000) (hg : g.a.sz ≤ 900000) :
    Calls Try.prog 69 #[.pointer (some ⟨ba, 0, none⟩), .int .i64 a, .string s] w (UOut w B bw ba b1 b2 (g.jump a s)) := (ajump_any h.asm a ha s hs hg).mono fun _ _ ho => uout_of h _ ho

theorem AsmW.setW {w : World} {B ba b1 b2 bw : Nat} {g : AsmG} (h : AsmW w B ba b1 b2 g) {cs : Array Value} (hw : w.heap[bw]? = some (.cells cs 90 (0, 0))) (j : Nat) (v : Value) : AsmW (w.setCell ⟨bw, j, none⟩ v) B ba b1 b2 g := by
  obtain ⟨pv, h1, h2⟩ := h.blk
  obtain ⟨e1, c1, m1⟩ := ownsMap_isMap h.pl
  obtain ⟨e2, c2, m2⟩ := ownsMap_isMap h.fr
  have n0 : ba ≠ bw := fun e => by
    rw [e, hw] at h1
    injection h1 with h1
    injection h1 with h1 h3
    exact absurd h3 (by decide)
  have n1 : b1 ≠ bw := fun e => by rw [e, hw] at m1; cases m1
  have n2 : b2 ≠ bw := fun e => by rw [e, hw] at m2; cases m2
  exact ⟨⟨pv, (Below.heap_setCell _ _ _ _ n0).trans h1, ⟨own_kept h2.own ((Kept.refl 41 w).setCell hw (by decide) v (a := ⟨bw, j, none⟩)), h2.wf⟩⟩, ownsMap_block h.pl (Below.heap_setCell _ _ _ _ n1), ownsMap_block h.fr (Below.heap_setCell _ _ _ _ n2), h.le⟩
theorem AsmW.drew {w : World} {B ba b1 b2 : Nat} {g : AsmG} (h : AsmW w B ba b1 b2 g) : AsmW w.drew B ba b1 b2 g := h.below (Below.refl _ _).drew
theorem name_after {w : World} {B bw ba b1 b2 : Nat} {g : UnG} (h : UnW w B bw ba b1 b2 g) (o : Obj) :
    UnW ((w.setCell ⟨bw, 1, none⟩ (.int .i64 ((g.n : Int) + 1))).alloc o).drew B bw ba b1 b2 (g.step 1) ∧ UChg B w ((w.setCell ⟨bw, 1, none⟩ (.int .i64 ((g.n : Int) + 1))).alloc o).drew := by
  have hlt := h.lt
  have h1 : UnW (w.setCell ⟨bw, 1, none⟩ (.int .i64 ((g.n : Int) + 1))) B bw ba b1 b2 (g.step 1) := ⟨set_blk h.blk 1 _, h.asm.setW h.blk 1 _, h.le⟩
  have hb : Below (w.setCell ⟨bw, 1, none⟩ (.int .i64 ((g.n : Int) + 1))).heap.size (w.setCell ⟨bw, 1, none⟩ (.int .i64 ((g.n : Int) + 1))) ((w.setCell ⟨bw, 1, none⟩ (.int .i64 ((g.n : Int) + 1))).alloc o).drew := ((Below.refl _ _).alloc (Nat.le_refl _) _).drew
  have hle := h.le
  have h2 : UChg B w (w.setCell ⟨bw, 1, none⟩ (.int .i64 ((g.n : Int) + 1))) := ⟨(Below.refl B w).setCell (p := ⟨bw, 1, none⟩) hle _, fun T _ _ t3 => (Kept.refl T w).setCell h.blk (a := ⟨bw, 1, none⟩) (Ne.symm t3) _⟩
  exact ⟨h1.below hb, h2.trans (UChg.of_below hb (by simp; omega))⟩
/-- The names. -/
theorem name_size (n : Nat) : (nameS n).size = 3 := rfl
theorem name_conv (W : World) (b n : Nat) (hn : n ≤ 3001) (i j : Int) (hi : i = 97 + (n : Int) % 26) (hj : j = 97 + (n : Int) / 26) (hb : W.heap[b]? = some (.cells #[.int .u8 46, .int .u8 i, .int .u8 j] 5 (0, 0))) :
    (convert 125 9 (.slice (some ⟨b, 0, none⟩) 3 3)).run Try.prog W = .ok (.string (nameS n)) W := by
  have h1 : ((97 + n % 26).toUInt8.toNat : Int) = i := by
    show (((97 + n % 26) % 256 : Nat) : Int) = i
    omega
  have h2 : ((97 + n / 26).toUInt8.toNat : Int) = j := by
    show (((97 + n / 26) % 256 : Nat) : Int) = j
    omega
  have c := (block_cells hb).1
  refine run_convert_bytes_back W _ _ 5 ⟨b, 0, none⟩ 3 [46, (97 + n % 26).toUInt8, (97 + n / 26).toUInt8] Try.underlying125 Try.underlying5 Try.underlying9 ?_
  intro k hk
  match k, hk with
  | 0, _ => exact c 0
  | 1, _ => rw [show ((⟨b, 0, none⟩ : Addr).add 1) = ⟨b, 1, none⟩ from rfl, c 1]; simp only [List.getElem_cons_succ, List.getElem_cons_zero]; rw [h1]; rfl
  | 2, _ => rw [show ((⟨b, 0, none⟩ : Addr).add 2) = ⟨b, 2, none⟩ from rfl, c 2]; simp only [List.getElem_cons_succ, List.getElem_cons_zero]; rw [h2]; rfl
set_option maxRecDepth 20000 in
set_option maxHeartbeats 4000000 in
theorem uname_any {w : World} {B bw ba b1 b2 : Nat} {g : UnG} (h : UnW w B bw ba b1 b2 g) (hn : g.n ≤ 3000) :
    Calls Try.prog 122 #[.pointer (some ⟨bw, 0, none⟩)] w fun e w' => e = .returned (.string (nameS (g.n + 1))) ∧ UnW w' B bw ba b1 b2 (g.step 1) ∧ UChg B w w' := by
  obtain ⟨q0, q1⟩ := block_cells h.blk
  have c1 : w.cell? ⟨bw, 1, none⟩ = some (.int .i64 (g.n : Nat)) := q0 1
  have f1 := q1 1
  have hlt := h.lt
  clear q0 q1
  have HF := Lib.hid (name_after h (.cells #[.int .u8 46, .int .u8 (97 + ((g.n : Int) + 1) % 26), .int .u8 (97 + ((g.n : Int) + 1) / 26)] 5))
  go_enter Try.func122, Try.ntmps122
  have hconv := name_conv (((w.setCell ⟨bw, 1, none⟩ (.int .i64 ((g.n : Int) + 1))).alloc (.cells #[.int .u8 46, .int .u8 (97 + ((g.n : Int) + 1) % 26), .int .u8 (97 + ((g.n : Int) + 1) / 26)] 5)).drew) w.heap.size (g.n + 1) (by omega) (97 + ((g.n : Int) + 1) % 26) (97 + ((g.n : Int) + 1) / 26) (by omega) (by omega) (by
    have e := heap_alloc_new (w.setCell ⟨bw, 1, none⟩ (.int .i64 ((g.n : Int) + 1))) (.cells #[.int .u8 46, .int .u8 (97 + ((g.n : Int) + 1) % 26), .int .u8 (97 + ((g.n : Int) + 1) / 26)] 5)
    rw [show (w.setCell ⟨bw, 1, none⟩ (.int .i64 ((g.n : Int) + 1))).heap.size = w.heap.size by simp] at e
    exact e)
  go_wp2_with fail
  go_region
  all_goals (
    have hF := HF.out
    go_wp2
    go_ret
    exact ⟨rfl, hF⟩)

end Go.Proofs.Ytlaeljkjdfffjaa


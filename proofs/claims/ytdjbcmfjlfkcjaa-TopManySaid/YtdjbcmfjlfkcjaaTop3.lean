/- narcissustop.follow. -/
import Derived.BigQuiet
import Derived.Test.YtdjbcmfjlfkcjaaTop2
import Derived.Test.YtdjbcmfjlfkcjaaMB1
import Derived.Test.YtdjbcmfjlfkcjaaMB3
namespace Go.Proofs.Ytdjbcmfjlfkcjaa
open Go.RowKit

theorem make_cells (n : Nat) (hn : n ≤ 4000) (w : World) : (Instr.makeSlice 92 (.int .i64 (n : Nat)) (.int .i64 (n : Nat))).run Try.prog w = .ok (.slice (some ⟨w.heap.size, 0, none⟩) n n) (w.alloc (.cells (nilsA n) 24)) := by
  obtain ⟨i, hi, hz, hsize, hbytes⟩ := info_parts el_cell.hi
  have h := run_make (P := Try.prog) w 92 24 i (.pointer none) el_cell.ht hi hz .i64 .i64 n n (by omega) (by omega) (by rw [hbytes]; omega) (by omega)
  rw [h, hsize]
  simp only [Int.toNat_natCast, Nat.mul_one, madeCells_nils]
theorem tsize_q {t : Tr} {v : Value} {w : World} (h : NodeP 101 w t v) (n : Nat) : Calls Try.prog 33 #[v] (w.drewN n) fun e w' => e = .returned (.int .i64 t.size) ∧ w' = w.drewN n :=
  (tsize_any t v _ (h.kept (Kept.below (below_drewN (Below.refl _ _) n)))).mono fun _e _w' ⟨h1, h2⟩ => ⟨h1, h2.symm⟩
/-- The machine of follow. -/
structure FolP (w : World) (l : List Ins) (s : St) (n k : Nat) (wr : World) : Prop where
  regs : ∃ ps, wr.heap[w.heap.size]? = some (.cells ps.toArray 140 (0, 0)) ∧ Nodes 101 wr s.regs ps
  row : ∃ xs, Nodes 101 wr (setsK l k) xs ∧ wr.ownsRow (w.heap.size + 1) 24 1 (.slice (some ⟨w.heap.size + 1, 0, none⟩) n n) n xs
  b : Below w.heap.size w wr
section
variable {w : World} {l : List Ins} {s : St} {n k : Nat} {A B : World}
theorem FolP.lt (h : FolP w l s n k A) : w.heap.size < A.heap.size := by obtain ⟨ps, h1, _⟩ := h.regs; exact (Array.getElem?_eq_some_iff.1 h1).1
theorem FolP.below (h : FolP w l s n k A) (hb : Below A.heap.size A B) : FolP w l s n k B := by
  have hlt := h.lt
  obtain ⟨ps, h1, h2⟩ := h.regs
  obtain ⟨xs, h3, h4⟩ := h.row
  exact ⟨⟨ps, (hb.block _ hlt).trans h1, h2.kept (Kept.below hb)⟩, ⟨xs, h3.kept (Kept.below hb), own_below h4 hb⟩, h.b.trans (hb.mono h.b.size)⟩
theorem FolP.rowblk (h : FolP w l s n k A) : ∃ cur, A.heap[w.heap.size + 1]? = some (.cells cur 24 (0, 0)) := by
  obtain ⟨xs, h1, h2⟩ := h.row
  rcases h2.2 with ⟨h0, _⟩ | ⟨g', cap', cur, hv, _, hg, _⟩
  · cases h0
  · simp only [Value.slice.injEq, Option.some.injEq, Addr.mk.injEq] at hv
    obtain ⟨⟨rfl, -, -⟩, -, -⟩ := hv
    exact ⟨cur, hg⟩
theorem FolP.cellK (h : FolP w l s n k A) (j : Nat) (hj : j < n) : (∃ q, A.cell? ⟨w.heap.size + 1, j, none⟩ = some (.pointer q) ∧ ∀ t, (setsK l k)[j]? = some t → NodeP 101 A t (.pointer q)) ∧ A.frozen? ⟨w.heap.size + 1, j, none⟩ = false := by
  obtain ⟨xs, h1, h2⟩ := h.row
  have hl : xs.length = n := by have := h2.1; simpa using this
  have hn : j < (setsK l k).length := by rw [← h1.length]; omega
  obtain ⟨v, hv, hnv⟩ := h1.get (List.getElem?_eq_getElem hn)
  obtain ⟨q, rfl⟩ := hnv.ptr
  refine ⟨⟨q, by rw [World.ownsRow.cellAt h2 j (by omega), hv], fun t ht => ?_⟩, World.ownsRow.frozenAt h2 j⟩
  rw [List.getElem?_eq_getElem hn] at ht
  injection ht with ht
  rw [← ht]; exact hnv
theorem FolP.set (h : FolP w l s n k A) {x : Ins} (hx : l[k]? = some x) {q : Option Addr} (hq : NodeP 101 A (toTr x.tree) (.pointer q)) : FolP w l s n (k + 1) (A.setCell ⟨w.heap.size + 1, k, none⟩ (.pointer q)) := by
  obtain ⟨cur, hcur⟩ := h.rowblk
  obtain ⟨ps, h3, h4⟩ := h.regs
  obtain ⟨xs, h1, h2⟩ := h.row
  have hK := (Kept.refl 101 A).setCell hcur (by decide) (.pointer q) (a := ⟨w.heap.size + 1, k, none⟩)
  refine ⟨⟨ps, (Below.heap_setCell _ _ _ _ (by show w.heap.size ≠ w.heap.size + 1; omega)).trans h3, h4.kept hK⟩, ⟨_, ?_, own_set h2 k _⟩, h.b.setCell (p := ⟨w.heap.size + 1, k, none⟩) (Nat.le_succ _) _⟩
  rw [← setsK_succ l k hx]
  exact (h1.set k hq).kept hK
theorem FolP.skip (h : FolP w l s n k A) {x : Ins} (hx : l[k]? = some x) (h0 : toTr x.tree = .nil) : FolP w l s n (k + 1) A :=
  ⟨h.regs, by rw [← setsK_none l k hx h0]; exact h.row, h.b⟩
theorem FolP.reg (h : FolP w l s n k A) {j : Nat} {t : Tr} (hj : s.regs[j]? = some t) : ∃ q, A.cell? ⟨w.heap.size, j, none⟩ = some (.pointer q) ∧ NodeP 101 A t (.pointer q) ∧ A.frozen? ⟨w.heap.size, j, none⟩ = false := by
  obtain ⟨ps, h1, h2⟩ := h.regs
  obtain ⟨v, hv, hn⟩ := h2.get hj
  obtain ⟨q, rfl⟩ := hn.ptr
  refine ⟨q, ?_, hn, (block_cells h1).2 j⟩
  rw [(block_cells h1).1 j, List.getElem?_toArray, hv]
theorem FolP.setReg (h : FolP w l s n k A) {j : Nat} {t : Tr} {q : Option Addr} (hn : NodeP 101 A t (.pointer q)) (pos : Nat) : FolP w l ⟨pos, s.regs.set j t⟩ n k (A.setCell ⟨w.heap.size, j, none⟩ (.pointer q)) := by
  obtain ⟨ps, h1, h2⟩ := h.regs
  obtain ⟨xs, h3, h4⟩ := h.row
  have hK := (Kept.refl 101 A).setCell h1 (by decide) (.pointer q) (a := ⟨w.heap.size, j, none⟩)
  refine ⟨⟨ps.set j (.pointer q), ?_, (h2.set j hn).kept hK⟩, ⟨xs, h3.kept hK, own_kept h4 ((Kept.refl 24 A).setCell h1 (by decide) _)⟩, h.b.setCell (p := ⟨w.heap.size, j, none⟩) (Nat.le_refl _) _⟩
  rw [set_blk h1 j (.pointer q)]
  simp
end
/-- What follow hands back: what play does, and a number. -/
def Res.fol : Res → Tr × Int
  | .done s _ => (getR s.regs 0, 0)
  | .fuel _ _ => (.nil, 1)
  | .big => (.nil, 2)
def FolOut (w : World) (r : Res) (e : Ending) (w' : World) : Prop := ∃ q k m, e = .returned (.tuple #[.pointer q, .int .i64 k, .int .i64 r.fol.2, .int .i64 m]) ∧ NodeP 101 w' r.fol.1 (.pointer q) ∧ (∀ s j, r = .done s j → k = j) ∧ Below w.heap.size w w'
theorem node_nilT {T : Nat} {w : World} {q : Option Addr} (h : NodeP T w .nil (.pointer q)) : q = none := by
  have h1 : Value.pointer q = .pointer none := h
  injection h1
theorem jump_same {s : St} {a : Nat} {t : Tr} (ht : s.regs[a]? = some t) : s.regs.set a t = s.regs := by
  apply List.ext_getElem?
  intro i
  by_cases h : a = i
  · subst h; rw [List.getElem?_set_self (List.getElem?_eq_some_iff.1 ht).1, ht]
  · rw [List.getElem?_set_ne h]
theorem getR_of {s : St} {a : Nat} {t : Tr} (ht : s.regs[a]? = some t) : getR s.regs (a : Int) = t := by unfold getR; rw [Int.toNat_natCast, ht]; rfl
theorem setR_of (rs : List Tr) (a : Nat) (t : Tr) : setR rs (a : Int) t = rs.set a t := by unfold setR; rw [Int.toNat_natCast]
set_option maxRecDepth 20000 in
set_option maxHeartbeats 4000000 in
theorem fol_start (v : Value) (l : List Ins) (t : Tr) (x : Value) (K : Nat) (hK : K ≤ 100000000) (w : World) (hl : InsRow w w.heap.size v l) (hv : validB l = true) (hx : NodeP 101 w t x) (ht : t.size ≤ 2000000)
    : Calls Try.prog 79 #[v, x, .int .i64 K] w (FolOut w (goF l K 0 (startS t))) := by
  have hn4 := validB_len hv
  have HV := Lib.hid (validB_all hv)
  obtain ⟨ao, cap, rfl⟩ := hl.len
  obtain ⟨xp, rfl⟩ := hx.ptr
  obtain ⟨n, hn'⟩ : ∃ n, l.length = n := ⟨_, rfl⟩
  rw [hn'] at hl hn4 ⊢
  have HN := Lib.hid hn'
  obtain ⟨RR, hRR⟩ : ∃ R, goF l K 0 (startS t) = R := ⟨_, rfl⟩
  rw [hRR]
  have HRR := Lib.hid hRR
  have hlw := Lib.hid hl
  have HX := Lib.hid hx
  have HT := Lib.hid ht
  have HG0 := Lib.hid (Good.start l.length t ht)
  have hKI : (K : Int) ≤ 100000000 := by omega
  have hnI : (n : Int) ≤ 4000 := by omega
  clear hn' hv hl hx ht hRR
  have hmk := fun w => make_cells n hn4 w
  go_enter Try.func79, Try.ntmps79
  go_wp2
  have HS := Lib.hid (show FolP w l ⟨0, List.replicate 32 .nil⟩ n 0 ((w.alloc (.cells #[.pointer none, .pointer none, .pointer none, .pointer none, .pointer none, .pointer none, .pointer none, .pointer none, .pointer none, .pointer none, .pointer none, .pointer none, .pointer none, .pointer none, .pointer none, .pointer none, .pointer none, .pointer none, .pointer none, .pointer none, .pointer none, .pointer none, .pointer none, .pointer none, .pointer none, .pointer none, .pointer none, .pointer none, .pointer none, .pointer none, .pointer none, .pointer none] 140)).alloc (.cells (nilsA n) 24)) from by
    have h1 := heap_alloc_new w (.cells (List.replicate 32 (Value.pointer none)).toArray 140)
    have hsz : (w.alloc (.cells (List.replicate 32 (Value.pointer none)).toArray 140)).heap.size = w.heap.size + 1 := by simp
    have h2 := own_nils (w := w.alloc (.cells (List.replicate 32 (Value.pointer none)).toArray 140)) (e := 24) (base := w.heap.size + 1) (n := n) (by unfold maxLen; omega) (by rw [hsz]; exact Nat.le_refl _)
    rw [hsz] at h2
    refine ⟨⟨List.replicate 32 (.pointer none), ?_, Nodes.nils 32⟩, ⟨List.replicate n (.pointer none), ?_, h2⟩, ((Below.refl _ w).alloc (Nat.le_refl _) _).alloc (by simp) _⟩
    · exact (((Below.refl (w.heap.size + 1) _).alloc (by simp) _).block w.heap.size (by omega)).trans h1
    · have : setsK l 0 = List.replicate n .nil := by unfold setsK; simp [HN.out]
      rw [this]; exact Nodes.nils n)
  clear hmk
  go_loopg [12] n (fun gg i wr => ∃ k : Nat, k ≤ n ∧ gg = n - k ∧ i = .int .i64 k ∧ Hid (FolP w l ⟨0, List.replicate 32 .nil⟩ n k wr))
  case atStart => exact ⟨0, by omega, rfl, rfl, HS⟩
  case round =>
    obtain ⟨k, hk, hgg, rfl, hlp⟩ := hrel
    have HGG := Lib.hid hgg
    clear hgg HS
    have HBW := Lib.hid hlp.out.b
    have hgl := hlp.out.lt
    by_cases hlt : k < n
    · obtain ⟨y, hy⟩ : ∃ s, l[k]? = some s := ⟨_, List.getElem?_eq_getElem (by rw [HN.out]; exact hlt)⟩
      have hl2 := hlw.out.below HBW.out
      obtain ⟨pg, off, rfl, hpg, p0, p1, p2, p3, p4⟩ := hl2.get hy
      have hts := (hl2.wf hy).2.2.2.2
      have hr := rightAll_get HV.out hy
      have HY := Lib.hid hy
      have hi0 : (0 : Int) ≤ (k : Int) := Int.natCast_nonneg _
      have hi1 : (k : Int) < (n : Int) := by omega
      clear hy hl2 p1 p2 p3
      by_cases ho : y.op = 0
      · have hop : (y.op == 0) = true := by rw [ho]; rfl
        have htr : isTree y.tree = true := by
          unfold rightB at hr
          rw [if_pos ho] at hr
          simp only [Bool.and_eq_true] at hr
          exact hr.2.2
        have hgb : growB y.tree 2000000 = true := by
          unfold growB
          rw [htr, Bool.true_and]
          unfold isTree at htr
          simp only [Bool.and_eq_true] at htr
          exact htr.1
        have kg := Lib.hid (fun w => tgrow_any y.tree hts 2000000 (by omega) w)
        have HGT := Lib.hid hgb
        clear hr ho hts htr hgb
        go_wp2_with fail
        refine (kg.out _).mono ?_
        rintro e w2 ⟨p, rfl, hnp, -, hb2⟩
        rw [HGT.out]
        have HNP := Lib.hid (hnp HGT.out)
        have hlp2 := Lib.hid (hlp.out.below hb2)
        obtain ⟨⟨qk, ck, -⟩, fk⟩ := hlp2.out.cellK k hlt
        have hnew := Lib.hid (hlp2.out.set HY.out HNP.out)
        clear kg hnp hb2 p0 p4
        go_wp2
        go_roundg (n - (k + 1))
        case measure => rw [HGG.out]; omega
        case rel => exact ⟨k + 1, by omega, rfl, by go_num, hnew⟩
      · have hop : (y.op == 0) = false := by rw [beq_eq_false_iff_ne]; exact ho
        have h0 : toTr y.tree = .nil := by
          unfold rightB at hr
          simp only [Bool.and_eq_true, Bool.or_eq_true, beq_iff_eq] at hr
          rcases hr.1.1.2 with h | h
          · exact absurd h ho
          · exact toTr_empty h
        have hnew := Lib.hid (hlp.out.skip HY.out h0)
        clear hr ho h0
        go_wp2
        go_roundg (n - (k + 1))
        case measure => rw [HGG.out]; omega
        case rel => exact ⟨k + 1, by omega, rfl, by go_num, hnew⟩
    · have hkn : k = n := by omega
      subst hkn
      have HX1 := Lib.hid (HX.out.kept (Kept.below HBW.out))
      obtain ⟨q0, c0, -, f0⟩ := hlp.out.reg (j := 0) (t := .nil) rfl
      have HS := Lib.hid (show FolP w l (startS t) k k (wr.setCell ⟨w.heap.size, 0, none⟩ (.pointer xp)) from hlp.out.setReg (j := 0) HX1.out 0)
      have HX2 := Lib.hid (show NodeP 101 (wr.setCell ⟨w.heap.size, 0, none⟩ (.pointer xp)) t (.pointer xp) from by
        obtain ⟨ps, h1, -⟩ := hlp.out.regs
        exact HX1.out.kept ((Kept.refl _ _).setCell h1 (by decide) _))
      obtain ⟨tz, htz⟩ : ∃ z, t.size = z := ⟨_, rfl⟩
      have ks := Lib.hid (tsize_any t _ _ HX2.out)
      rw [htz] at ks
      have htzI : (tz : Int) ≤ 2000000 := by have := HT.out; omega
      clear hlp hlt htz
      go_wp2_with fail
      refine ks.out.mono ?_
      rintro e wq ⟨rfl, rfl⟩
      obtain ⟨W2, hW2⟩ : ∃ B, wr.setCell ⟨w.heap.size, 0, none⟩ (.pointer xp) = B := ⟨_, rfl⟩
      rw [hW2] at HS ⊢
      clear hW2 ks HX1 HX2 HBW c0 f0 hgl
      go_wp2
      go_loopg [13, 14, 15, 16] K (fun gg at_ al mo ki wr => ∃ (j : Nat) (a m : Int), j ≤ K ∧ gg = K - j ∧ at_ = .int .i64 (stN l (startS t) j).pos ∧ al = .int .i64 a ∧ mo = .int .i64 m ∧ ki = .int .i64 j ∧ Hid (Reach l (startS t) j) ∧ Hid (FolP w l (stN l (startS t) j) k k wr))
      case atStart => exact ⟨0, _, _, by omega, rfl, rfl, rfl, rfl, rfl, Reach.zero _ _, HS⟩
      case round =>
        obtain ⟨j, al, mo, hj, hgg, rfl, rfl, rfl, rfl, hre, hat⟩ := hrel
        have HGG := Lib.hid hgg
        have HGJ := Lib.hid (hre.out.good HV.out HG0.out)
        have HGF := Lib.hid (hre.out.goF K hj)
        rw [HRR.out] at HGF
        have KSUC := Lib.hid (fun s' (hp : (stN l (startS t) j).pos ≠ l.length) (hs : stepP l (stN l (startS t) j) = some s') => (show Reach l (startS t) (j + 1) ∧ stN l (startS t) (j + 1) = s' from ⟨hre.out.succ hp hs, stN_succ hs⟩))
        clear hgg HS hre
        generalize stN l (startS t) j = s at *
        have hgl := hat.out.lt
        have HBW := Lib.hid hat.out.b
        have h32 := HGJ.out.2.1
        obtain ⟨P, hP⟩ : ∃ P, s.pos = P := ⟨_, rfl⟩
        have HP := Lib.hid hP
        rw [hP]
        have hPk : P ≤ k := by have := HGJ.out.1; rw [HP.out, HN.out] at this; exact this
        have hjI : (j : Int) ≤ 100000000 := by omega
        clear hP
        by_cases hend : P = k
        · have hfin := Lib.hid (show RR = .done s j by rw [HGF.out, goF_done (by rw [HP.out, HN.out, hend])])
          obtain ⟨t0, ht0⟩ : ∃ t, s.regs[0]? = some t := ⟨_, List.getElem?_eq_getElem (by omega)⟩
          obtain ⟨q0, c0, n0, -⟩ := hat.out.reg ht0
          have HN0 := Lib.hid n0
          have HG00 := Lib.hid (show getR s.regs 0 = t0 from getR_of (a := 0) ht0)
          have hpe : ((P : Int) == (k : Int)) = true := by rw [beq_iff_eq]; omega
          clear hend n0 ht0 h32
          go_wp2
          refine bodyPost_ret (v := .tuple #[.pointer q0, .int .i64 j, .int .i64 0, .int .i64 mo]) (by simp [results, Try.results79, go_sem]) rfl ?_
          rw [hfin.out]
          exact ⟨_, _, _, rfl, by show NodeP _ _ (getR s.regs 0) _; rw [HG00.out]; exact HN0.out, fun s2 j2 e => (by cases e; rfl), HBW.out⟩
        have hpe : ((P : Int) == (k : Int)) = false := by rw [beq_eq_false_iff_ne]; omega
        have hPL := Lib.hid (show s.pos ≠ l.length by rw [HP.out, HN.out]; exact hend)
        by_cases hfu : j = K
        · have hfin := Lib.hid (show RR = .fuel s j by rw [HGF.out, hfu, Nat.sub_self, goF_zero hPL.out])
          have hfe : ((j : Int) == (K : Int)) = true := by rw [beq_iff_eq]; omega
          clear hend hfu h32
          go_wp2
          refine bodyPost_ret (v := .tuple #[.pointer none, .int .i64 j, .int .i64 1, .int .i64 mo]) (by simp [results, Try.results79, go_sem]) rfl ?_
          rw [hfin.out]
          exact ⟨_, _, _, rfl, rfl, fun s2 j2 e => (by cases e), HBW.out⟩
        have hfe : ((j : Int) == (K : Int)) = false := by rw [beq_eq_false_iff_ne]; omega
        have hPlt : P < k := by omega
        obtain ⟨⟨op, xa, xb, xc, tree⟩, hy⟩ : ∃ s, l[P]? = some s := ⟨_, List.getElem?_eq_getElem (by rw [HN.out]; exact hPlt)⟩
        have hl2 := hlw.out.below HBW.out
        obtain ⟨pg, off, rfl, hpg, p0, p1, p2, p3, p4⟩ := hl2.get hy
        have hr := rightAll_get HV.out hy
        obtain ⟨ra, hra, ra32, hbc⟩ := right_nats hr
        have hopc := right_op hr
        have HY := Lib.hid hy
        have HR := Lib.hid hr
        have hi0 : (0 : Int) ≤ (P : Int) := Int.natCast_nonneg _
        have hi1 : (P : Int) < (k : Int) := by omega
        have hPI : (P : Int) ≤ 4000 := by omega
        simp only at hra hbc hopc p0 p1 p2 p3 p4
        subst hra
        have HBC := Lib.hid hbc
        clear hbc
        have hjK : j < K := by omega
        have ia0 : (0 : Int) ≤ (ra : Int) := Int.natCast_nonneg _
        have ia1 : (ra : Int) < 32 := by omega
        obtain ⟨ta, hta⟩ : ∃ t, s.regs[ra]? = some t := ⟨_, List.getElem?_eq_getElem (by omega)⟩
        have HTA := Lib.hid hta
        have KSTEP := Lib.hid (fun s' (h : stepX ⟨op, (ra : Nat), xb, xc, tree⟩ s = some s') => (show Reach l (startS t) (j + 1) ∧ stN l (startS t) (j + 1) = s' from KSUC.out s' hPL.out (by unfold stepP; rw [HP.out, HY.out]; exact h)))
        have KBIG := Lib.hid (fun (h : stepX ⟨op, (ra : Nat), xb, xc, tree⟩ s = none) => show RR = .big by
          rw [HGF.out, show K - j = (K - j - 1) + 1 by omega, goF_big hPL.out (by unfold stepP; rw [HP.out, HY.out]; exact h)])
        have hWB := Lib.hid ((Below.refl wr.heap.size wr).alloc (Nat.le_refl _) (.cells #[.int .i64 op, .int .i64 (ra : Nat), .int .i64 xb, .int .i64 xc, .string tree] 75))
        have FB := Lib.hid (hat.out.below hWB.out)
        obtain ⟨qa, ca, na, fa⟩ := FB.out.reg hta
        have HNA := Lib.hid na
        have KSA := Lib.hid (fun n => tsize_q HNA.out n)
        have hat0 := Lib.hid hat.out.b
        have hat1 := Lib.hid hgl
        clear hy hl2 hr hta hend hfu KSUC hat na hgl
        rcases hopc with hop | hop | hop | hop | hop | hop
        · subst hop
          obtain ⟨⟨qy, cy, hnY⟩, -⟩ := FB.out.cellK P hPlt
          have HNY := Lib.hid (hnY (toTr tree) (by rw [show setsK l k = l.map fun x => toTr x.tree from by rw [← HN.out]; exact setsK_all l, List.getElem?_map, HY.out]; rfl))
          have KSY := Lib.hid (fun n => tsize_q HNY.out n)
          have FBY := FB
          have HST := Lib.hid (KSTEP.out ⟨P + 1, s.regs.set ra (toTr tree)⟩ (by unfold stepX; rw [← HP.out, ← setR_of]; rfl))
          clear hnY HBC
          go_wp2
          go_quiet (first | (go_at_call 33; with_reducible refine Calls.quiet_of_same (KSY.out _)) | (go_at_call 33; with_reducible refine Calls.quiet_of_same (KSA.out _)))
          go_wp2
          all_goals
            go_roundg (K - (j + 1))
            case measure => rw [HGG.out]; omega
            case rel => exact ⟨j + 1, _, _, by omega, rfl, by rw [HST.out.2]; go_num, rfl, rfl, by go_num, HST.out.1, by rw [HST.out.2]; exact Lib.hid ((FBY.out.below (below_drewN (Below.refl _ _) _)).setReg (HNY.out.kept (Kept.below (below_drewN (Below.refl _ _) _))) _)⟩
        · subst hop
          obtain ⟨rb, rc, hb, hc, rb32, rc32⟩ := HBC.out (by decide)
          subst hb
          have ib0 : (0 : Int) ≤ (rb : Int) := Int.natCast_nonneg _
          have ib1 : (rb : Int) < 32 := by omega
          obtain ⟨tb, htb⟩ : ∃ t, s.regs[rb]? = some t := ⟨_, List.getElem?_eq_getElem (by omega)⟩
          obtain ⟨qb, cb, nb, fb⟩ := FB.out.reg htb
          have HNY := Lib.hid nb
          have KSY := Lib.hid (fun n => tsize_q HNY.out n)
          have FBY := FB
          have HST := Lib.hid (KSTEP.out ⟨P + 1, s.regs.set ra tb⟩ (by unfold stepX; rw [← HP.out, ← setR_of, ← getR_of htb]; rfl))
          clear HBC nb htb hc fb
          go_wp2
          go_quiet (first | (go_at_call 33; with_reducible refine Calls.quiet_of_same (KSY.out _)) | (go_at_call 33; with_reducible refine Calls.quiet_of_same (KSA.out _)))
          go_wp2
          all_goals
            go_roundg (K - (j + 1))
            case measure => rw [HGG.out]; omega
            case rel => exact ⟨j + 1, _, _, by omega, rfl, by rw [HST.out.2]; go_num, rfl, rfl, by go_num, HST.out.1, by rw [HST.out.2]; exact Lib.hid ((FBY.out.below (below_drewN (Below.refl _ _) _)).setReg (HNY.out.kept (Kept.below (below_drewN (Below.refl _ _) _))) _)⟩
        · subst hop
          obtain ⟨rb, rc, hb, hc, rb32, rc32⟩ := HBC.out (by decide)
          subst hb
          have ib0 : (0 : Int) ≤ (rb : Int) := Int.natCast_nonneg _
          have ib1 : (rb : Int) < 32 := by omega
          obtain ⟨tb, htb⟩ : ∃ t, s.regs[rb]? = some t := ⟨_, List.getElem?_eq_getElem (by omega)⟩
          obtain ⟨qb, cb, nb, fb⟩ := FB.out.reg htb
          subst hc
          have ic0 : (0 : Int) ≤ (rc : Int) := Int.natCast_nonneg _
          have ic1 : (rc : Int) < 32 := by omega
          obtain ⟨tc, htc⟩ : ∃ t, s.regs[rc]? = some t := ⟨_, List.getElem?_eq_getElem (by omega)⟩
          obtain ⟨qc, cc, nc, fc⟩ := FB.out.reg htc
          have HNB := Lib.hid nb
          have HNC := Lib.hid nc
          have hzbn := HGJ.out.2.2 _ (List.mem_of_getElem? htb)
          have hzcn := HGJ.out.2.2 _ (List.mem_of_getElem? htc)
          have KSB := Lib.hid (fun n => tsize_q HNB.out n)
          have KSC := Lib.hid (fun n => tsize_q HNC.out n)
          have hps := Lib.hid (show (Tr.pair tb tc).size = 1 + tb.size + tc.size from rfl)
          have KST2 := Lib.hid (fun (h : (Tr.pair tb tc).size ≤ 2000000) => KSTEP.out ⟨P + 1, s.regs.set ra (.pair tb tc)⟩ (by
            unfold stepX
            simp only [show ¬ (2 : Int) = 0 by decide, show ¬ (2 : Int) = 1 by decide, if_false, if_true]
            rw [getR_of htb, getR_of htc, if_pos h, setR_of, HP.out]))
          have KBG2 := Lib.hid (fun (h : ¬ (Tr.pair tb tc).size ≤ 2000000) => KBIG.out (by
            unfold stepX
            simp only [show ¬ (2 : Int) = 0 by decide, show ¬ (2 : Int) = 1 by decide, if_false, if_true]
            rw [getR_of htb, getR_of htc, if_neg h]))
          obtain ⟨zb, hzb⟩ : ∃ z, tb.size = z := ⟨_, rfl⟩
          obtain ⟨zc, hzc⟩ : ∃ z, tc.size = z := ⟨_, rfl⟩
          rw [hzb] at KSB hzbn hps
          rw [hzc] at KSC hzcn hps
          have HZB := Lib.hid hzb
          have HZC := Lib.hid hzc
          have hzbI : (zb : Int) ≤ 2000000 := by omega
          have hzcI : (zc : Int) ≤ 2000000 := by omega
          have hbox := Lib.hid (heap_alloc_new wr (.cells #[.int .i64 2, .int .i64 (ra : Nat), .int .i64 (rb : Nat), .int .i64 (rc : Nat), .string tree] 75))
          clear HBC nb nc htb htc fb fc hzb hzc hzbn hzcn KBIG KSTEP
          go_wp2
          go_quiet (first | (go_at_call 33; with_reducible refine Calls.quiet_of_same (KSB.out _)) | (go_at_call 33; with_reducible refine Calls.quiet_of_same (KSC.out _)))
          generalize hZ : (zb : Int) + (zc : Int) = Z
          have HZ := Lib.hid hZ
          clear hZ
          by_cases hbig : (2000000 : Int) ≤ Z
          · have hfin := Lib.hid (KBG2.out (by rw [hps.out]; have := HZ.out; omega))
            have hbW := Lib.hid (hat0.out.trans ((hWB.out.trans (below_drewN (Below.refl _ _) nq)).mono hat0.out.size))
            go_wp2
            refine bodyPost_ret (v := .tuple #[.pointer none, .int .i64 j, .int .i64 2, .int .i64 2000000]) (by simp [results, Try.results79, go_sem]) rfl ?_
            rw [hfin.out]
            exact ⟨_, _, _, rfl, rfl, fun s2 j2 e => (by cases e), hbW.out⟩
          · have HST := Lib.hid (KST2.out (by rw [hps.out]; have := HZ.out; omega))
            have hbd := below_drewN (Below.refl (wr.alloc (.cells #[.int .i64 2, .int .i64 (ra : Nat), .int .i64 (rb : Nat), .int .i64 (rc : Nat), .string tree] 75)).heap.size (wr.alloc (.cells #[.int .i64 2, .int .i64 (ra : Nat), .int .i64 (rb : Nat), .int .i64 (rc : Nat), .string tree] 75))) nq
            have hsB : (wr.alloc (.cells #[.int .i64 2, .int .i64 (ra : Nat), .int .i64 (rb : Nat), .int .i64 (rc : Nat), .string tree] 75)).heap.size = wr.heap.size + 1 := by simp
            have FB3 := Lib.hid (FB.out.below hbd)
            have hbox3 := Lib.hid ((hbd.block wr.heap.size (by omega)).trans hbox.out)
            have HNB3 := Lib.hid (HNB.out.kept (Kept.below hbd))
            have HNC3 := Lib.hid (HNC.out.kept (Kept.below hbd))
            have cb3 := (hbd.cell (p := ⟨w.heap.size, rb, none⟩) (by have := hat1.out; show w.heap.size < _; omega)).trans cb
            have cc3 := (hbd.cell (p := ⟨w.heap.size, rc, none⟩) (by have := hat1.out; show w.heap.size < _; omega)).trans cc
            clear ca cb cc fa KSA FB KSB KSC HNB HNC hbd hbox hsB KST2 KBG2
            go_wp2
            generalize (wr.alloc (.cells #[.int .i64 2, .int .i64 (ra : Nat), .int .i64 (rb : Nat), .int .i64 (rc : Nat), .string tree] 75)).drewN nq = W3 at *
            have hlt3 := Lib.hid (show wr.heap.size < W3.heap.size from (Array.getElem?_eq_some_iff.1 hbox3.out).1)
            have bx := (block_cells hbox3.out).1
            have K3 := Lib.hid (fun (w' : World) (hb : Below W3.heap.size W3 w') => (show w'.cell? ⟨wr.heap.size, 2, none⟩ = some (.int .i64 (rb : Nat)) ∧ w'.cell? ⟨wr.heap.size, 3, none⟩ = some (.int .i64 (rc : Nat)) ∧ w'.cell? ⟨w.heap.size, rb, none⟩ = some (.pointer qb) ∧ w'.cell? ⟨w.heap.size, rc, none⟩ = some (.pointer qc) from
              ⟨(hb.cell (p := ⟨wr.heap.size, 2, none⟩) hlt3.out).trans (bx 2), (hb.cell (p := ⟨wr.heap.size, 3, none⟩) hlt3.out).trans (bx 3), (hb.cell (p := ⟨w.heap.size, rb, none⟩) FB3.out.lt).trans cb3, (hb.cell (p := ⟨w.heap.size, rc, none⟩) FB3.out.lt).trans cc3⟩))
            have kp := Lib.hid (fun (w' : World) (hb : Below W3.heap.size W3 w') => (show Calls Try.prog 34 #[.pointer qb, .pointer qc] w' fun e w'' => ∃ p, e = .returned (.pointer (some p)) ∧ Hid (NodeP 101 w'' (.pair tb tc) (.pointer (some p))) ∧ Below W3.heap.size W3 w'' from
              (tpair_ok tb tc _ _ w' (HNB3.out.kept (Kept.below hb)) (HNC3.out.kept (Kept.below hb)) (by rw [HZB.out]; omega) (by rw [HZC.out]; omega)).mono fun e w'' ⟨p, h1, h2, h3⟩ => ⟨p, h1, Lib.hid h2, hb.trans (h3.mono hb.size)⟩))
            have bx2 := bx 2
            have bx3 := bx 3
            simp only [List.getElem?_toArray, List.getElem?_cons_zero, List.getElem?_cons_succ] at bx2 bx3
            clear bx
            go_region_held3 (fun w' => w'.cell? ⟨wr.heap.size, 2, none⟩ = some (.int .i64 (rb : Nat)) ∧ w'.cell? ⟨wr.heap.size, 3, none⟩ = some (.int .i64 (rc : Nat)) ∧ w'.cell? ⟨w.heap.size, rb, none⟩ = some (.pointer qb) ∧ w'.cell? ⟨w.heap.size, rc, none⟩ = some (.pointer qc))
              (exact K3.out _ (by first | exact Below.refl _ _ | exact (Below.refl _ _).drew | exact hb5 | exact hb5.drew))
              ((refine (kp.out _ (by first | exact Below.refl _ _ | exact (Below.refl _ _).drew)).mono ?_; rintro e w5 ⟨p5, rfl, hp5, hb5⟩))
            all_goals
              have FBY := Lib.hid (FB3.out.below hb5)
              have HNY := hp5
              have KSY := Lib.hid (fun n => tsize_q HNY.out n)
              have hbox5 := (hb5.block wr.heap.size hlt3.out).trans hbox3.out
              have b51 := (block_cells hbox5).1 1
              simp only [List.getElem?_toArray, List.getElem?_cons_zero, List.getElem?_cons_succ] at b51
              obtain ⟨qa5, ca5, na5, fa5⟩ := FBY.out.reg HTA.out
              have HNA5 := Lib.hid na5
              have KSA := Lib.hid (fun n => tsize_q HNA5.out n)
              clear K3 kp hbox5 na5 bx2 bx3 cb3 cc3 hb5 FB3
              go_wp2
              go_quiet (first | (go_at_call 33; with_reducible refine Calls.quiet_of_same (KSY.out _)) | (go_at_call 33; with_reducible refine Calls.quiet_of_same (KSA.out _)))
              go_wp2
              all_goals
                go_roundg (K - (j + 1))
                case measure => rw [HGG.out]; omega
                case rel => exact ⟨j + 1, _, _, by omega, rfl, by rw [HST.out.2]; go_num, rfl, rfl, by go_num, HST.out.1, by rw [HST.out.2]; exact Lib.hid ((FBY.out.below (below_drewN (Below.refl _ _) _)).setReg (HNY.out.kept (Kept.below (below_drewN (Below.refl _ _) _))) _)⟩
        · subst hop
          obtain ⟨rb, rc, hb, hc, rb32, rc32⟩ := HBC.out (by decide)
          subst hb
          have ib0 : (0 : Int) ≤ (rb : Int) := Int.natCast_nonneg _
          have ib1 : (rb : Int) < 32 := by omega
          obtain ⟨tb, htb⟩ : ∃ t, s.regs[rb]? = some t := ⟨_, List.getElem?_eq_getElem (by omega)⟩
          obtain ⟨qb, cb, nb, fb⟩ := FB.out.reg htb
          cases tb with
          | nil =>
            obtain rfl := node_nilT nb
            have HNY := Lib.hid (show NodeP 101 (wr.alloc (.cells #[.int .i64 3, .int .i64 (ra : Nat), .int .i64 (rb : Nat), .int .i64 xc, .string tree] 75)) .nil (.pointer none) from rfl)
            have KSY := Lib.hid (fun n => tsize_q HNY.out n)
            have FBY := FB
            have HST := Lib.hid (KSTEP.out ⟨P + 1, s.regs.set ra .nil⟩ (by unfold stepX; rw [← HP.out, ← setR_of, getR_of htb]; rfl))
            clear HBC nb htb hc fb
            go_wp2
            go_quiet (first | (go_at_call 33; with_reducible refine Calls.quiet_of_same (KSY.out _)) | (go_at_call 33; with_reducible refine Calls.quiet_of_same (KSA.out _)))
            go_wp2
            all_goals
              go_roundg (K - (j + 1))
              case measure => rw [HGG.out]; omega
              case rel => exact ⟨j + 1, _, _, by omega, rfl, by rw [HST.out.2]; go_num, rfl, rfl, by go_num, HST.out.1, by rw [HST.out.2]; exact Lib.hid ((FBY.out.below (below_drewN (Below.refl _ _) _)).setReg (HNY.out.kept (Kept.below (below_drewN (Below.refl _ _) _))) _)⟩
          | pair t1 t2 =>
            obtain ⟨g3, x3, y3, hqe, -, d0, d1, -, n1, n2⟩ := nb.cells
            injection hqe with hqe
            subst hqe
            have HNY := Lib.hid n1
            have KSY := Lib.hid (fun n => tsize_q HNY.out n)
            have FBY := FB
            have HST := Lib.hid (KSTEP.out ⟨P + 1, s.regs.set ra t1⟩ (by unfold stepX; rw [← HP.out, ← setR_of, getR_of htb]; rfl))
            clear HBC nb htb hc fb n1 n2
            go_wp2
            go_quiet (first | (go_at_call 33; with_reducible refine Calls.quiet_of_same (KSY.out _)) | (go_at_call 33; with_reducible refine Calls.quiet_of_same (KSA.out _)))
            go_wp2
            all_goals
              go_roundg (K - (j + 1))
              case measure => rw [HGG.out]; omega
              case rel => exact ⟨j + 1, _, _, by omega, rfl, by rw [HST.out.2]; go_num, rfl, rfl, by go_num, HST.out.1, by rw [HST.out.2]; exact Lib.hid ((FBY.out.below (below_drewN (Below.refl _ _) _)).setReg (HNY.out.kept (Kept.below (below_drewN (Below.refl _ _) _))) _)⟩
        · subst hop
          obtain ⟨rb, rc, hb, hc, rb32, rc32⟩ := HBC.out (by decide)
          subst hb
          have ib0 : (0 : Int) ≤ (rb : Int) := Int.natCast_nonneg _
          have ib1 : (rb : Int) < 32 := by omega
          obtain ⟨tb, htb⟩ : ∃ t, s.regs[rb]? = some t := ⟨_, List.getElem?_eq_getElem (by omega)⟩
          obtain ⟨qb, cb, nb, fb⟩ := FB.out.reg htb
          cases tb with
          | nil =>
            obtain rfl := node_nilT nb
            have HNY := Lib.hid (show NodeP 101 (wr.alloc (.cells #[.int .i64 4, .int .i64 (ra : Nat), .int .i64 (rb : Nat), .int .i64 xc, .string tree] 75)) .nil (.pointer none) from rfl)
            have KSY := Lib.hid (fun n => tsize_q HNY.out n)
            have FBY := FB
            have HST := Lib.hid (KSTEP.out ⟨P + 1, s.regs.set ra .nil⟩ (by unfold stepX; rw [← HP.out, ← setR_of, getR_of htb]; rfl))
            clear HBC nb htb hc fb
            go_wp2
            go_quiet (first | (go_at_call 33; with_reducible refine Calls.quiet_of_same (KSY.out _)) | (go_at_call 33; with_reducible refine Calls.quiet_of_same (KSA.out _)))
            go_wp2
            all_goals
              go_roundg (K - (j + 1))
              case measure => rw [HGG.out]; omega
              case rel => exact ⟨j + 1, _, _, by omega, rfl, by rw [HST.out.2]; go_num, rfl, rfl, by go_num, HST.out.1, by rw [HST.out.2]; exact Lib.hid ((FBY.out.below (below_drewN (Below.refl _ _) _)).setReg (HNY.out.kept (Kept.below (below_drewN (Below.refl _ _) _))) _)⟩
          | pair t1 t2 =>
            obtain ⟨g3, x3, y3, hqe, -, d0, d1, -, n1, n2⟩ := nb.cells
            injection hqe with hqe
            subst hqe
            have HNY := Lib.hid n2
            have KSY := Lib.hid (fun n => tsize_q HNY.out n)
            have FBY := FB
            have HST := Lib.hid (KSTEP.out ⟨P + 1, s.regs.set ra t2⟩ (by unfold stepX; rw [← HP.out, ← setR_of, getR_of htb]; rfl))
            clear HBC nb htb hc fb n1 n2
            go_wp2
            go_quiet (first | (go_at_call 33; with_reducible refine Calls.quiet_of_same (KSY.out _)) | (go_at_call 33; with_reducible refine Calls.quiet_of_same (KSA.out _)))
            go_wp2
            all_goals
              go_roundg (K - (j + 1))
              case measure => rw [HGG.out]; omega
              case rel => exact ⟨j + 1, _, _, by omega, rfl, by rw [HST.out.2]; go_num, rfl, rfl, by go_num, HST.out.1, by rw [HST.out.2]; exact Lib.hid ((FBY.out.below (below_drewN (Below.refl _ _) _)).setReg (HNY.out.kept (Kept.below (below_drewN (Below.refl _ _) _))) _)⟩
        · subst hop
          have hjb := right_jump HR.out rfl
          have hjb1 : -(P : Int) ≤ xb ∧ xb ≤ (k : Int) - P := by have h := hjb; rw [HN.out] at h; exact h
          cases ta with
          | nil =>
            obtain rfl := node_nilT HNA.out
            have HNY := HNA
            have KSY := KSA
            have FBY := FB
            have HST := Lib.hid (KSTEP.out ⟨P + 1, s.regs.set ra .nil⟩ (by rw [jump_same HTA.out]; unfold stepX; rw [← HP.out, getR_of HTA.out]; rfl))
            clear HBC hjb
            go_wp2
            go_quiet (first | (go_at_call 33; with_reducible refine Calls.quiet_of_same (KSY.out _)) | (go_at_call 33; with_reducible refine Calls.quiet_of_same (KSA.out _)))
            go_wp2
            all_goals
              go_roundg (K - (j + 1))
              case measure => rw [HGG.out]; omega
              case rel => exact ⟨j + 1, _, _, by omega, rfl, by rw [HST.out.2]; first | go_num | (congr 1; show _ = ((((P : Int) + xb).toNat : Nat) : Int); omega), rfl, rfl, by go_num, HST.out.1, by rw [HST.out.2]; exact Lib.hid ((FBY.out.below (below_drewN (Below.refl _ _) _)).setReg (HNY.out.kept (Kept.below (below_drewN (Below.refl _ _) _))) _)⟩
          | pair t1 t2 =>
            obtain ⟨g3, x3, y3, hqe, -, d0, d1, -, -, -⟩ := HNA.out.cells
            injection hqe with hqe
            subst hqe
            have HNY := HNA
            have KSY := KSA
            have FBY := FB
            have HST := Lib.hid (KSTEP.out ⟨((P : Int) + xb).toNat, s.regs.set ra (.pair t1 t2)⟩ (by rw [jump_same HTA.out]; unfold stepX; rw [← HP.out, getR_of HTA.out]; rfl))
            clear HBC hjb d0 d1
            go_wp2
            go_quiet (first | (go_at_call 33; with_reducible refine Calls.quiet_of_same (KSY.out _)) | (go_at_call 33; with_reducible refine Calls.quiet_of_same (KSA.out _)))
            go_wp2
            all_goals
              go_roundg (K - (j + 1))
              case measure => rw [HGG.out]; omega
              case rel => exact ⟨j + 1, _, _, by omega, rfl, by rw [HST.out.2]; first | go_num | (congr 1; show _ = ((((P : Int) + xb).toNat : Nat) : Int); omega), rfl, rfl, by go_num, HST.out.1, by rw [HST.out.2]; exact Lib.hid ((FBY.out.below (below_drewN (Below.refl _ _) _)).setReg (HNY.out.kept (Kept.below (below_drewN (Below.refl _ _) _))) _)⟩
end Go.Proofs.Ytdjbcmfjlfkcjaa


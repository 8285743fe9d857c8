/- ref01.Equal of two trees that are equal. -/
import Derived.Test.YtlaeljkjdfffjaaMB0
import Derived.LaidEqlPtr
namespace Go.Proofs.Ytlaeljkjdfffjaa
open Go.RowKit

def dupT : List (Tr × Tr) → List Tr
  | [] => []
  | t :: l => t.1 :: t.2 :: dupT l
def szF (l : List (Tr × Tr)) : Nat := (l.map fun p => p.1.size).sum
theorem dupT_length (l : List (Tr × Tr)) : (dupT l).length = 2 * l.length := by
  induction l with
  | nil => rfl
  | cons a l ih => simp [dupT, ih]; omega
theorem len_szF (l : List (Tr × Tr)) : l.length ≤ szF l := by
  induction l with
  | nil => simp [szF]
  | cons a l ih => have := a.1.size_pos; simp [szF] at *; omega
def Eqs (t u : Tr) (l : List (Tr × Tr)) : Prop := t = u ↔ ∀ p ∈ l, p.1 = p.2
theorem Eqs.skip {t u a : Tr} {l : List (Tr × Tr)} (h : Eqs t u ((a, a) :: l)) : Eqs t u l := by
  unfold Eqs at *; rw [h]; simp
theorem Eqs.bad {t u a b : Tr} {l : List (Tr × Tr)} (h : Eqs t u ((a, b) :: l)) (hn : a.size ≠ b.size) : t ≠ u := by
  intro e
  have := h.1 e (a, b) (List.mem_cons_self)
  exact hn (by rw [show a = b from this])
theorem Eqs.push {t u a b c d : Tr} {l : List (Tr × Tr)} (h : Eqs t u ((.pair a b, .pair c d) :: l)) : Eqs t u ((d, b) :: (c, a) :: l) := by
  unfold Eqs at *
  rw [h]
  simp only [List.forall_mem_cons, Tr.pair.injEq]
  exact ⟨fun ⟨⟨h1, h2⟩, h3⟩ => ⟨h2.symm, h1.symm, h3⟩, fun ⟨h2, h1, h3⟩ => ⟨⟨h1.symm, h2.symm⟩, h3⟩⟩
/-- What a pointer stands for. -/
theorem NodeP.unique {T : Nat} {w : World} : ∀ {t u : Tr} {v : Value}, NodeP T w t v → NodeP T w u v → t = u := by
  intro t
  induction t with
  | nil =>
    intro u v h g
    cases u with
    | nil => rfl
    | pair a b =>
      have hv : v = .pointer none := h
      obtain ⟨g0, x, y, hp, _⟩ := g
      rw [hv] at hp; cases hp
  | pair a b iha ihb =>
    intro u v h g
    cases u with
    | nil =>
      have hv : v = .pointer none := g
      obtain ⟨g0, x, y, hp, _⟩ := h
      rw [hv] at hp; cases hp
    | pair c d =>
      obtain ⟨g1, x1, y1, hp1, hb1, ha1, hb11⟩ := h
      obtain ⟨g2, x2, y2, hp2, hb2, ha2, hb22⟩ := g
      have hg : g1 = g2 := by rw [hp1] at hp2; simpa using hp2
      subst hg
      rw [hb1] at hb2
      simp at hb2
      obtain ⟨h5, h6, _⟩ := hb2
      subst h5; subst h6
      rw [iha ha1 ha2, ihb hb11 hb22]
theorem node_info : ∃ j, Try.prog.info? 58 = some j ∧ j.size ≠ 0 := by
  have hs : (Try.prog.info? 58).map (·.size) = some 3 := by kernel_rfl
  cases hq : Try.prog.info? 58 with
  | none => simp [hq] at hs
  | some i => exact ⟨i, rfl, by simp [hq] at hs; omega⟩
theorem eqp_same (q : Option Addr) (w : World) : (binOp .eql 47 (.pointer q) (.pointer q)).run Try.prog w = .ok (.bool true) w := by
  obtain ⟨j, h1, h2⟩ := node_info
  cases q with
  | some a => exact run_eql_ptr_same w a Try.underlying47 h1
  | none =>
    have h : ∀ d : Nat, (Op.equalIn (d + 1) 47 (.pointer none) (.pointer none)).run Try.prog w = .ok true w := fun d => by
      simp [Op.equalIn, run_underlying Try.underlying47, go_sem]
    simp only [binOp]
    simp [Op.equal, Op.maxDepth, h 9999]
theorem eqp_other {a b : Addr} {ca cb : Array Value} {ta tb : TypeId} (w : World) (hne : a ≠ b) (ha : w.heap[a.block]? = some (.cells ca ta (0, 0))) (hb : w.heap[b.block]? = some (.cells cb tb (0, 0))) : (binOp .eql 47 (.pointer (some a)) (.pointer (some b))).run Try.prog w = .ok (.bool false) w := by
  obtain ⟨j, h1, h2⟩ := node_info
  exact run_eql_ptr_other w Try.underlying47 h1 h2 hne ha hb
theorem eqp_ne {u u' : Tr} {px py : Option Addr} {w : World} (hx : NodeP 58 w u (.pointer px)) (hy : NodeP 58 w u' (.pointer py)) (hn : px ≠ py) : (binOp .eql 47 (.pointer px) (.pointer py)).run Try.prog w = .ok (.bool false) w := by
  cases u with
  | nil =>
    have e1 : px = none := by have h : Value.pointer px = .pointer none := hx; simpa using h
    subst e1
    cases py with
    | none => exact absurd rfl hn
    | some b =>
      have h : ∀ d : Nat, (Op.equalIn (d + 1) 47 (.pointer none) (.pointer (some b))).run Try.prog w = .ok false w := fun d => by
        simp [Op.equalIn, run_underlying Try.underlying47, go_sem]
      simp only [binOp]
      simp [Op.equal, Op.maxDepth, h 9999]
  | pair a b =>
    obtain ⟨g1, x1, y1, hp1, hb1, _, _⟩ := hx
    obtain rfl : px = some ⟨g1, 0, none⟩ := by simpa using hp1
    cases u' with
    | nil =>
      have e1 : py = none := by have h : Value.pointer py = .pointer none := hy; simpa using h
      subst e1
      have h : ∀ d : Nat, (Op.equalIn (d + 1) 47 (.pointer (some ⟨g1, 0, none⟩)) (.pointer none)).run Try.prog w = .ok false w := fun d => by
        simp [Op.equalIn, run_underlying Try.underlying47, go_sem]
      simp only [binOp]
      simp [Op.equal, Op.maxDepth, h 9999]
    | pair c d =>
      obtain ⟨g2, x2, y2, hp2, hb2, _, _⟩ := hy
      obtain rfl : py = some ⟨g2, 0, none⟩ := by simpa using hp2
      exact eqp_other (a := ⟨g1, 0, none⟩) (b := ⟨g2, 0, none⟩) w (fun h => hn (by rw [h])) hb1 hb2
theorem pairs_of {u u' : Tr} {px py : Option Addr} {w : World} (hx : NodeP 58 w u (.pointer px)) (hy : NodeP 58 w u' (.pointer py)) (hs : u.size = u'.size) (hn : px ≠ py) : ∃ a b a' b', u = .pair a b ∧ u' = .pair a' b' := by
  cases u with
  | nil =>
    cases u' with
    | nil =>
      have e1 : px = none := by have h : Value.pointer px = .pointer none := hx; simpa using h
      have e2 : py = none := by have h : Value.pointer py = .pointer none := hy; simpa using h
      exact absurd (e1.trans e2.symm) hn
    | pair c d => have h1 := c.size_pos; have h2 := d.size_pos; simp [Tr.size] at hs; omega
  | pair a b =>
    cases u' with
    | nil => have h1 := a.size_pos; have h2 := b.size_pos; simp [Tr.size] at hs; omega
    | pair c d => exact ⟨a, b, c, d, rfl, rfl⟩
set_option maxRecDepth 20000 in
set_option maxHeartbeats 4000000 in
theorem equal_any (t t' : Tr) (va vb : Value) (w : World) (h1 : NodeP 58 w t' va) (h2 : NodeP 58 w t vb) (hs : t.size ≤ 4000001) :
    Calls Try.prog 37 #[va, vb] w fun e w' => e = .returned (.bool (decide (t = t'))) ∧ Below w.heap.size w w' := by
  have hsI : (t.size : Int) ≤ 4000001 := by omega
  clear hs
  obtain ⟨D, hD⟩ : ∃ D, decide (t = t') = D := ⟨_, rfl⟩
  rw [hD]
  have HD := Lib.hid hD
  clear hD
  obtain ⟨pa, rfl⟩ := h1.ptr
  obtain ⟨pb, rfl⟩ := h2.ptr
  go_enter Try.func37, Try.ntmps37
  go_wp2
  have hst : (w.alloc (.cells #[.pointer pa, .pointer pb] 47)).ownsRow w.heap.size 47 1 (.slice (some ⟨w.heap.size, 0, none⟩) 2 2) 2 [.pointer pa, .pointer pb] := World.ownsRow_lit w _ 2 (Nat.le_refl _) (by decide) rfl
  have hN1 : NodeP 58 (w.alloc (.cells #[.pointer pa, .pointer pb] 47)) t' (.pointer pa) := h1.kept ((Kept.refl _ _).alloc _)
  have hN2 : NodeP 58 (w.alloc (.cells #[.pointer pa, .pointer pb] 47)) t (.pointer pb) := h2.kept ((Kept.refl _ _).alloc _)
  have hb2 : Below w.heap.size w (w.alloc (.cells #[.pointer pa, .pointer pb] 47)) := (Below.refl _ _).alloc (Nat.le_refl _) _
  clear h1 h2
  generalize w.alloc (.cells #[.pointer pa, .pointer pb] 47) = w2 at *
  go_loopg [5] t.size (fun g sv wr => ∃ (us : List (Tr × Tr)) (vals : List Value) (m : Nat), Aside (g = szF us) ∧ Aside (szF us ≤ t.size ∧ Eqs t t' us) ∧ Nodes 58 wr (dupT us) vals ∧ Aside (m = 2 * us.length) ∧
      wr.ownsRow w.heap.size 47 1 sv m vals.reverse ∧ Below w.heap.size w wr)
  case atStart => exact ⟨[(t, t')], [.pointer pb, .pointer pa], 2, (by show _ = _; simp [szF]), (by show _ ∧ _; simp [szF, Eqs]), ⟨hN2, hN1, trivial⟩, rfl, hst, hb2⟩
  case round =>
    clear hst hN1 hN2 hb2
    obtain ⟨us, vals, m, hg, hz, hNs, hml, hst, hb⟩ := hrel
    have hsz := hb.size
    cases us with
    | nil =>
      have hm0 : m = 0 := hml.out
      subst hm0
      obtain ⟨sa, sc, rfl⟩ := own_len hst
      have hd : D = true := by rw [← HD.out]; exact decide_eq_true (hz.out.2.2 (by simp))
      subst hd
      clear hg hz hml hst hNs
      go_wp2
      go_ret
      exact ⟨rfl, hb⟩
    | cons uu us =>
      obtain ⟨u, u'⟩ := uu
      obtain ⟨vx, vals, rfl, hx, hNs⟩ := hNs.uncons
      obtain ⟨vy, vals, rfl, hy, hvs⟩ := hNs.uncons
      obtain ⟨m, rfl⟩ : ∃ q, m = q + 2 := ⟨2 * us.length, by have := hml.out; simp at this; omega⟩
      have hul := u.size_pos
      have hszs : szF ((u, u') :: us) = u.size + szF us := by simp [szF]
      have hus := len_szF us
      have hmu : m = 2 * us.length := by have := hml.out; simp at this; omega
      obtain ⟨sg, cap, rfl, hg1, hg2, hnc, hcm, hcell, hfz⟩ := own_cells hst (by omega)
      have hvl := hvs.length
      rw [dupT_length] at hvl
      have c1 : wr.cell? ⟨sg, m + 1, none⟩ = some vx := by
        rw [hcell _ (by omega), List.reverse_cons, List.reverse_cons, List.getElem?_append_right (by simp; omega)]; simp [hvl, hmu]
      have c2 : wr.cell? ⟨sg, m, none⟩ = some vy := by
        rw [hcell _ (by omega), List.reverse_cons, List.reverse_cons, List.append_assoc, List.getElem?_append_right (by simp; omega)]; simp [hvl, hmu]
      have hpop : wr.ownsRow w.heap.size 47 1 (.slice (some ⟨sg, 0, none⟩) m cap) m vals.reverse :=
        ownsRow_pop (last := [vy]) (by simp [hvl, hmu]) (ownsRow_pop (last := [vx]) (by simp [hvl, hmu]) (by rw [List.reverse_cons, List.reverse_cons] at hst; exact hst))
      have hle : m + 2 ≤ cap := hnc
      have hmI : (m : Int) + 2 ≤ (cap : Int) := by omega
      have hmT : m + u.size + u.size ≤ 2 * t.size := by have := hz.out.1; rw [hszs] at this; omega
      have e1 : ((m : Int) + 2 - 1).toNat = m + 1 := by omega
      have e2 : ((m : Int) + 2 - 2).toNat = m := by omega
      have o1 : (0 : Int) ≤ (m : Int) + 2 - 1 := by omega
      have o2 : (m : Int) + 2 - 1 < (m : Int) + 2 := by omega
      have o3 : (0 : Int) ≤ (m : Int) + 2 - 2 := by omega
      have o4 : (m : Int) + 2 - 2 < (m : Int) + 2 := by omega
      have hm2 : (m : Int) ≤ 8000002 := by omega
      have HZ := Lib.hid hszs; have HMU := Lib.hid hmu; have HMT := Lib.hid hmT
      clear hszs hus hmu hcell hfz hst hvl hNs hml hnc hle hmT
      obtain ⟨px, rfl⟩ := hx.ptr
      obtain ⟨py, rfl⟩ := hy.ptr
      go_wp2
      go_quiet (fail)
      have hkk : Kept 58 wr (wr.drewN nq) := Kept.drewN (Kept.refl _ _) nq
      have hb2 : Below w.heap.size w (wr.drewN nq) := below_drewN hb _
      have hs2 : w.heap.size ≤ (wr.drewN nq).heap.size := hsz
      have hpop2 : (wr.drewN nq).ownsRow w.heap.size 47 1 (.slice (some ⟨sg, 0, none⟩) m cap) m vals.reverse := hpop
      have hx2 := hx.kept hkk
      have hy2 := hy.kept hkk
      have hvs2 := hvs.kept hkk
      clear c1 c2 hpop hb hsz hkk hx hy hvs e1 e2 o1 o2 o3 o4 hg1 hg2
      generalize wr.drewN nq = w3 at *
      by_cases hpp : px = py
      · subst hpp
        have hcmp := fun w => eqp_same px w
        obtain rfl := hx2.unique hy2
        go_wp2
        go_roundg (szF us)
        case measure => rw [hg.out, HZ.out]; omega
        case rel => exact ⟨us, vals, m, rfl, (by show _ ∧ _; have := hz.out.1; rw [HZ.out] at this; exact ⟨by omega, hz.out.2.skip⟩), hvs2, HMU.out, hpop2, hb2⟩
      · by_cases hsz9 : u.size = u'.size
        case neg =>
          have hcmp : ∀ w0, w0 = w3 → (binOp .eql 47 (.pointer px) (.pointer py)).run Try.prog w0 = .ok (.bool false) w0 := by
            rintro w0 rfl
            exact eqp_ne hx2 hy2 hpp
          have hcmp := hcmp w3 rfl
          have hd : D = false := by rw [← HD.out]; exact decide_eq_false (hz.out.2.bad hsz9)
          subst hd
          have hne : ¬ (u.size : Int) = (u'.size : Int) := by omega
          have kx := rnodeSize_any u _ w3 hx2
          have ky := rnodeSize_any u' _ w3 hy2
          clear hz HZ HMT hx2 hy2 hsz9 hpp hul hcm
          go_wp2_with fail
          refine kx.mono ?_
          rintro e w4 ⟨rfl, rfl⟩
          go_wp2_with fail
          refine ky.mono ?_
          rintro e w4 ⟨rfl, rfl⟩
          clear kx ky hcmp
          go_wp2
          go_ret
          exact ⟨rfl, hb2⟩
        obtain ⟨a, b, a', b', rfl, rfl⟩ := pairs_of hx2 hy2 hsz9 hpp
        have hsz8 : ((Tr.pair a b).size : Int) = ((Tr.pair a' b').size : Int) := by rw [hsz9]
        obtain ⟨g1, x1, y1, hv1, hg1, d0, d1, d2, ha1, hb1⟩ := hx2.cells
        obtain ⟨g2, x2, y2, hv2, hg2, f0, f1, f2, ha2, hb22⟩ := hy2.cells
        obtain ⟨g1', X1, Y1, hvv1, hblk1, _, _⟩ := hx2
        obtain ⟨g2', X2, Y2, hvv2, hblk2, _, _⟩ := hy2
        simp only [Value.pointer.injEq] at hv1 hv2
        subst hv1; subst hv2
        obtain rfl : g1 = g1' := by simpa using hvv1
        obtain rfl : g2 = g2' := by simpa using hvv2
        obtain rfl : X1 = .pointer x1 := by have h3 := (block_cells hblk1).1 0; rw [d0] at h3; simpa using h3.symm
        obtain rfl : Y1 = .pointer y1 := by have h3 := (block_cells hblk1).1 1; rw [d1] at h3; simpa using h3.symm
        obtain rfl : X2 = .pointer x2 := by have h3 := (block_cells hblk2).1 0; rw [f0] at h3; simpa using h3.symm
        obtain rfl : Y2 = .pointer y2 := by have h3 := (block_cells hblk2).1 1; rw [f1] at h3; simpa using h3.symm
        have kx := rnodeSize_any (.pair a b) _ w3 ⟨g1, .pointer x1, .pointer y1, rfl, hblk1, ha1, hb1⟩
        have ky := rnodeSize_any (.pair a' b') _ w3 ⟨g2, .pointer x2, .pointer y2, rfl, hblk2, ha2, hb22⟩
        rw [← hsz9] at ky
        have hne : (g1 == g2) = false := by rw [beq_eq_false_iff_ne]; intro h; exact hpp (by rw [h])
        have hcmp := eqp_other (a := ⟨g1, 0, none⟩) (b := ⟨g2, 0, none⟩) w3 (fun h => hpp (by rw [h])) hblk1 hblk2
        have HB1 := Lib.hid hblk1; have HB2 := Lib.hid hblk2
        clear hblk1 hblk2 hvv1 hvv2 hpp d0 d1 d2 f0 f1 f2
        have hab : (Tr.pair a b).size = 1 + a'.size + b'.size := by rw [hsz9]; rfl
        have ha0 := a'.size_pos
        have hb0 := b'.size_pos
        have hmm : (m : Int) + 4 ≤ 8000002 := by have := HMT.out; omega
        have HAB := Lib.hid hab
        have hm1 := Lib.hid (show m + 4 ≤ 8000006 by omega)
        have hsz9 := Lib.hid hsz9
        clear hab ha0 hb0 hsz8 hne hNs hul hcm hmm
        go_wp2_with fail
        refine kx.mono ?_
        rintro e w4 ⟨rfl, rfl⟩
        go_wp2_with fail
        refine ky.mono ?_
        rintro e w4 ⟨rfl, rfl⟩
        clear kx ky hcmp
        have d0 := (block_cells HB1.out).1 0
        have d1 := (block_cells HB1.out).1 1
        have f0 := (block_cells HB2.out).1 0
        have f1 := (block_cells HB2.out).1 1
        go_wp2
        go_region_held3 (fun w' => (w'.cell? ⟨g1, 0, none⟩ = some (.pointer x1) ∧ w'.cell? ⟨g1, 1, none⟩ = some (.pointer y1)) ∧ (w'.cell? ⟨g2, 0, none⟩ = some (.pointer x2) ∧ w'.cell? ⟨g2, 1, none⟩ = some (.pointer y2)))
          (first | exact ⟨keepS HB1.out (Kept.drew (Kept.refl _ _)), keepS HB2.out (Kept.drew (Kept.refl _ _))⟩ | exact ⟨keepS HB1.out (Kept.drew ((Kept.refl _ _).alloc _)), keepS HB2.out (Kept.drew ((Kept.refl _ _).alloc _))⟩ | exact ⟨keepS HB1.out (Kept.of_drew (Kept.grew hpop2.drew hgr4 (by decide))), keepS HB2.out (Kept.of_drew (Kept.grew hpop2.drew hgr4 (by decide)))⟩)
          ((refine step_new el_rnode (by rfl) _ _ (by rfl) (by rfl) (hpop2.drew) [.pointer x1, .pointer x2, .pointer y1, .pointer y2] 4 (by rfl) (by rfl) (by decide) (by intro u hu; simp at hu; rcases hu with rfl | rfl | rfl | rfl <;> rfl) (by have := hm1.out; omega) (by have := hm1.out; unfold maxLen; omega) hs2 hb2.drew (Nat.le_refl _) ?_; intro g4 cap4 w4 hst4 hb4 hgr4))
        all_goals
          have hkk4 : Kept 58 w3 w4 := Kept.of_drew (Kept.grew hpop2.drew hgr4 (by decide))
          have hN4 := hvs2.kept hkk4
          have ha14 := ha1.kept hkk4
          have hb14 := hb1.kept hkk4
          have ha24 := ha2.kept hkk4
          have hb24 := hb22.kept hkk4
          clear hvs2 ha1 hb1 ha2 hb22 hpop2 d0 d1 f0 f1
          go_wp2
          go_roundg (szF ((b', b) :: (a', a) :: us))
          case measure => rw [hg.out, HZ.out, HAB.out]; simp [szF]; omega
          case rel =>
            refine ⟨(b', b) :: (a', a) :: us, .pointer y2 :: .pointer y1 :: .pointer x2 :: .pointer x1 :: vals, m + 4, rfl, ?_, ⟨hb24, hb14, ha24, ha14, hN4⟩, ?_, by simpa using hst4, hb4⟩
            · show _ ∧ _; have h1 := hz.out.1; rw [HZ.out, HAB.out] at h1; exact ⟨by simp [szF] at h1 ⊢; omega, hz.out.2.push⟩
            · show _ = _; rw [HMU.out]; simp; omega
end Go.Proofs.Ytlaeljkjdfffjaa


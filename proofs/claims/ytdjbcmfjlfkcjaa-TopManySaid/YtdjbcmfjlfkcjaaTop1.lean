/- narcissustop's trees: size, pair, grow, text, equal. -/
import Derived.Test.YtdjbcmfjlfkcjaaMB0
namespace Go.Proofs.Ytdjbcmfjlfkcjaa
open Go.RowKit

theorem el_cell : ElemT Try.prog 92 24 (.pointer none) 1 8 := ⟨Try.underlying92, by kernel_rfl, rfl, by decide⟩
theorem tsize_any (t : Tr) (v : Value) (w : World) (h : NodeP 101 w t v) :
    Calls Try.prog 33 #[v] w fun e w' => e = .returned (.int .i64 t.size) ∧ w = w' := by
  cases t with
  | nil =>
    have hv : v = .pointer none := h
    subst hv
    go_enter Try.func33, Try.ntmps33
    go_wp2
    go_ret
    exact ⟨rfl, rfl⟩
  | pair a b =>
    obtain ⟨g, x, y, rfl, hg, c0, c1, c2, ha, hb⟩ := h.cells
    go_enter Try.func33, Try.ntmps33
    go_wp2
    go_ret
    exact ⟨rfl, rfl⟩

theorem tpair_ok (a b : Tr) (x y : Value) (w : World) (ha : NodeP 101 w a x) (hb : NodeP 101 w b y) (h1 : a.size ≤ 4000001) (h2 : b.size ≤ 4000001) :
    Calls Try.prog 34 #[x, y] w fun e w' => ∃ p, e = .returned (.pointer (some p)) ∧ NodeP 101 w' (.pair a b) (.pointer (some p)) ∧ Below w.heap.size w w' := by
  have s1 := tsize_any a x w ha
  have s2 := tsize_any b y w hb
  have hn := NodeP.new ha hb
  obtain ⟨x, rfl⟩ := ha.ptr
  obtain ⟨y, rfl⟩ := hb.ptr
  obtain ⟨sz, hsz⟩ : ∃ q, (Tr.pair a b).size = q := ⟨_, rfl⟩
  rw [hsz] at hn
  have ht : ((1 + a.size + b.size : Nat) : Int) = sz := by rw [← hsz]; rfl
  have e1 : (1 : Int) + a.size + b.size = sz := by omega
  have a1 : (a.size : Int) ≤ 4000001 := by omega
  have a2 : (b.size : Int) ≤ 4000001 := by omega
  clear hsz ht h1 h2
  go_enter Try.func34, Try.ntmps34
  go_wp2_with fail
  refine s1.mono ?_
  rintro e w1 ⟨rfl, rfl⟩
  go_wp2_with fail
  refine s2.mono ?_
  rintro e w1 ⟨rfl, rfl⟩
  clear s1 s2
  go_wp2
  go_ret
  exact ⟨_, rfl, hn, (Below.refl _ _).alloc (Nat.le_refl _) _⟩

set_option maxHeartbeats 2000000 in
theorem ttext_any (t : Tr) (v : Value) (w : World) (h : NodeP 101 w t v) (hs : t.size ≤ 4000001) :
    Calls Try.prog 65 #[v] w fun e w' => e = .returned (.string (TS t)) ∧ Below w.heap.size w w' := by
  have hsI : (t.size : Int) ≤ 4000001 := by omega
  have hs1 : (1 : Int) ≤ t.size := by have := t.size_pos; omega
  obtain ⟨i0, hi0, hz0, hz1, hz2⟩ := info_parts el_u8.hi
  obtain ⟨pv, rfl⟩ := h.ptr
  obtain ⟨S, hS⟩ : ∃ S, TS t = S := ⟨_, rfl⟩
  rw [hS]
  have HS := Lib.hid hS; clear hS
  go_enter Try.func65, Try.ntmps65
  go_wp2
  have hN := h
  have hb := Below.refl w.heap.size w
  have hsz1 := hb.size
  have hown : w.ownsRow w.heap.size 5 1 (.slice none 0 0) 0 [] := World.ownsRow_nil _ _ _ _
  clear h
  have hst : (w.alloc (.cells #[.pointer pv] 24)).ownsRow w.heap.size 24 1 (.slice (some ⟨w.heap.size, 0, none⟩) 1 1) 1 [.pointer pv] := World.ownsRow_lit w _ 1 hsz1 (by decide) rfl
  have hown2 := hown.alloc (.cells #[.pointer pv] 24)
  have hN2 : NodeP 101 (w.alloc (.cells #[.pointer pv] 24)) t (.pointer pv) := hN.kept ((Kept.refl _ _).alloc _)
  have hb2 : Below w.heap.size w (w.alloc (.cells #[.pointer pv] 24)) := hb.alloc hsz1 _
  clear hown hb hN
  generalize w.alloc (.cells #[.pointer pv] 24) = w2 at *
  go_loopg [3, 4] t.size (fun g ov sv wr => ∃ (us : List Tr) (vals : List Value) (done : List UInt8) (n m : Nat), Aside (g = szs us) ∧ n ≤ t.size ∧ m ≤ t.size ∧ Aside (t.enc = done ++ (us.map Tr.enc).flatten) ∧ Nodes 101 wr us vals ∧ Aside (m = us.length) ∧
      wr.ownsRow w.heap.size 5 1 ov n (Lib.byteCells done) ∧ wr.ownsRow w.heap.size 24 1 sv m vals.reverse ∧ Below w.heap.size w wr)
  case atStart => exact ⟨[t], [.pointer pv], [], 0, 1, (by show _ = _; simp [szs]), by omega, by omega, (by show _ = _; simp), ⟨hN2, trivial⟩, rfl, hown2, hst, hb2⟩
  case round =>
    clear hst hown2 hN2 hb2
    obtain ⟨us, vals, done, n, m, hg, hn, hm, he, hNs, hml, hown, hst, hb⟩ := hrel
    have hsz := hb.size
    have hnd : n = done.length := by have := hown.1; simpa [Lib.byteCells] using this.symm
    have hlen : done.length + szs us = t.size := by
      have h3 := congrArg List.length he.out
      rw [List.length_append, szs_flat, Tr.enc_length] at h3; omega
    cases us with
    | nil =>
      have hm0 : m = 0 := hml.out
      subst hm0
      obtain ⟨sa, sc, rfl⟩ := own_len hst
      have hed : t.enc = done := by have := he.out; simpa using this
      have hcv := own_bytes (P := Try.prog) done hown 106 Try.underlying106 Try.underlying5 9 Try.underlying9
      have HE := Lib.hid hed
      clear hed hg he hml hlen hnd hown
      go_wp2
      go_ret
      exact ⟨by rw [← HS.out]; unfold TS; rw [HE.out]; rfl, hb⟩
    | cons u us =>
      obtain ⟨v, vals, rfl, hv, hvs⟩ := hNs.uncons
      obtain ⟨m, rfl⟩ : ∃ q, m = q + 1 := ⟨us.length, hml.out⟩
      have hul := u.size_pos
      have hszs : szs (u :: us) = u.size + szs us := by simp [szs]
      have hus : us.length ≤ szs us := by
        have : ∀ l : List Tr, l.length ≤ szs l := fun l => by
          induction l with
          | nil => simp [szs]
          | cons a l ih => have := a.size_pos; simp [szs] at *; omega
        exact this us
      have hmu : m = us.length := by have := hml.out; simpa using this
      obtain ⟨sg, cap, rfl, hg1, hg2, hnc, hcm, hcell, hfz⟩ := own_cells hst (by omega)
      have hvl := hvs.length
      have c1 : wr.cell? ⟨sg, m, none⟩ = some v := by
        rw [hcell _ (by omega), List.reverse_cons, List.getElem?_append_right (by simp; omega)]; simp [hvl, hmu]
      have hpop : wr.ownsRow w.heap.size 24 1 (.slice (some ⟨sg, 0, none⟩) m cap) m vals.reverse := ownsRow_pop (last := [v]) (by simp [hvl, hmu]) (by rw [List.reverse_cons] at hst; exact hst)
      have hmI : (m : Int) ≤ (cap : Int) := by omega
      have hm2 : (m : Int) ≤ 4000001 := by omega
      have hn2 : (n : Int) ≤ 4000001 := by omega
      have HND := Lib.hid hnd; have HL := Lib.hid hlen; have HZ := Lib.hid hszs; have HU := Lib.hid hus; have HMU := Lib.hid hmu
      clear hnd hlen hszs hus hmu hcell hfz hst hvl hNs hml
      cases u with
      | nil =>
        have hv0 : v = .pointer none := hv
        subst hv0
        have hb1 : n + 1 ≤ t.size := by have := HL.out; have := HZ.out; have := HND.out; omega
        go_wp2_with (at_builtin; refine app_new el_u8 rfl _ _ rfl rfl hown [.int .u8 48] 1 rfl rfl ?c1 ?c2 ?c3 hsz hb (Nat.le_refl _) ?_)
        case c1 => intro u hu; simp at hu; rcases hu with rfl; rfl
        case c2 => omega
        case c3 => unfold maxLen; omega
        intro ov' w3 hown' hb' hgr
        have hN' := hvs.kept (Kept.grew hown hgr (by decide))
        have hst' := own_other hown hpop hgr (by decide)
        clear hown hpop hb hvs hv c1
        go_wp2
        go_roundg (szs us)
        case measure => rw [hg.out, HZ.out]; omega
        case rel =>
          refine ⟨us, vals, done ++ [48], n + 1, m, rfl, hb1, by omega, ?_, hN', HMU.out, ?_, hst', hb'⟩
          · show _ = _; rw [he.out]; simp [Tr.enc]
          · simpa [Lib.byteCells] using hown'
      | pair a b =>
        obtain ⟨ng, x, y, rfl, hng, d0, d1, d2, ha, hb9⟩ := hv.cells
        obtain ⟨ng', x', y', hvv, hblk, _, _⟩ := hv
        obtain rfl : ng = ng' := by simpa using hvv
        have hx' : x' = .pointer x := by have h3 := (block_cells hblk).1 0; rw [d0] at h3; simpa using h3.symm
        have hy' : y' = .pointer y := by have h3 := (block_cells hblk).1 1; rw [d1] at h3; simpa using h3.symm
        subst hx'; subst hy'
        have hab : (Tr.pair a b).size = 1 + a.size + b.size := rfl
        have ha1 := a.size_pos
        have hb1' := b.size_pos
        have hb1 : n + 1 ≤ t.size := by have := HL.out; have := HZ.out; have := HND.out; omega
        have hm3 : m + 2 ≤ t.size := by have := HL.out; have := HZ.out; have := HU.out; have := HMU.out; omega
        go_wp2_with (at_builtin; refine app_new el_u8 rfl _ _ rfl rfl hown [.int .u8 49] 1 rfl rfl ?c1 ?c2 ?c3 hsz hb (Nat.le_refl _) ?_)
        case c1 => intro u hu; simp at hu; rcases hu with rfl; rfl
        case c2 => omega
        case c3 => unfold maxLen; omega
        intro ov' w3 hown' hb' hgr
        have hkk : Kept 101 wr w3 := Kept.grew hown hgr (by decide)
        have hblk3 := hkk _ _ hblk
        have hvs3 := hvs.kept hkk
        have ha3 := ha.kept hkk
        have hb3 := hb9.kept hkk
        have hst' := own_other hown hpop hgr (by decide)
        have hsz3 := hb'.size
        have hab' := hab
        have HAB := Lib.hid hab
        clear hab hab' hown hpop hb hvs c1 d0 d1 d2 ha hb9 hblk hkk hgr
        have e0 := (block_cells hblk3).1 0
        have e1 := (block_cells hblk3).1 1
        have HB3 := Lib.hid hblk3; clear hblk3
        go_wp2
        go_region_held3 (fun w' => w'.cell? ⟨ng, 0, none⟩ = some (.pointer x) ∧ w'.cell? ⟨ng, 1, none⟩ = some (.pointer y))
          (first | exact keepS HB3.out (Kept.drew (Kept.refl _ _)) | exact keepS HB3.out (Kept.drew ((Kept.refl _ _).alloc _)) | exact keepS HB3.out (Kept.of_drew (Kept.grew hst'.drew hgr4 (by decide))))
          ((refine step_new el_cell (by rfl) _ _ (by rfl) (by rfl) (hst'.drew) [.pointer y, .pointer x] 2 (by rfl) (by rfl) (by decide) (by intro u hu; simp at hu; rcases hu with rfl | rfl <;> rfl) (by omega) (by unfold maxLen; omega) hsz3 hb'.drew (Nat.le_refl _) ?_; intro g4 cap4 w4 hst4 hb4 hgr4))
        all_goals
          have hkk4 : Kept 101 w3 w4 := Kept.of_drew (Kept.grew hst'.drew hgr4 (by decide))
          have hN4 := hvs3.kept hkk4
          have ha4 := ha3.kept hkk4
          have hb44 := hb3.kept hkk4
          have hown4 := own_other hst'.drew hown'.drew hgr4 (by decide)
          clear hvs3 ha3 hb3 hown' hst' e0 e1
          go_wp2
          go_roundg (szs (a :: b :: us))
          case measure => rw [hg.out, HZ.out, HAB.out]; simp [szs]; omega
          case rel =>
            refine ⟨a :: b :: us, .pointer x :: .pointer y :: vals, done ++ [49], n + 1, m + 2, rfl, hb1, hm3, ?_, ⟨ha4, hb44, hN4⟩, ?_, ?_, ?_, hb4⟩
            · show _ = _; rw [he.out]; simp [Tr.enc]
            · show _ = _; rw [HMU.out]; simp
            · simpa [Lib.byteCells] using hown4
            · simpa using hst4


/-- What grow takes. -/
def growB (s : ByteArray) (most : Nat) : Bool := isTree s && decide (s.size ≤ most)
def GrowOut (w : World) (s : ByteArray) (most : Nat) (e : Ending) (w' : World) : Prop := ∃ p, e = .returned (.tuple #[.pointer p, .bool (growB s most)]) ∧ (growB s most = true → NodeP 101 w' (toTr s) (.pointer p)) ∧ (growB s most = false → p = none) ∧ Below w.heap.size w w'
theorem GrowOut.bad {w w' : World} {s : ByteArray} {most : Nat} {e : Ending} (h : growB s most = false) (he : e = .returned (.tuple #[.pointer none, .bool false])) (hb : Below w.heap.size w w') : GrowOut w s most e w' :=
  ⟨none, by rw [he, h], fun h1 => (by rw [h] at h1; cases h1), fun _ => rfl, hb⟩

set_option maxRecDepth 20000 in
set_option maxHeartbeats 4000000 in
theorem tgrow_any (s : ByteArray) (hs : s.size ≤ 140737488355328) (most : Nat) (hmost : most ≤ 2000000) (w : World) :
    Calls Try.prog 20 #[.string s, .int .i64 most] w (GrowOut w s most) := by
  have hmI : (most : Int) ≤ 2000000 := by omega
  by_cases hbig : most < s.size
  · have hbad : growB s most = false := by unfold growB; rw [decide_eq_false (by omega), Bool.and_false]
    have hd : (most : Int) < s.size := by omega
    have HB := Lib.hid hbad
    clear hbig hbad
    go_enter Try.func20, Try.ntmps20
    go_wp2
    go_ret2
    exact GrowOut.bad HB.out rfl (Below.refl _ _)
  · have hs2 : (s.size : Int) ≤ 2000000 := by omega
    have hs3 : (s.size : Int) ≤ most := by omega
    have hs4 : ¬ (most : Int) < s.size := by omega
    have hs5 : ¬ most < s.size := by omega
    have HGB := Lib.hid (show growB s most = isTree s by unfold growB; rw [decide_eq_true (by omega), Bool.and_true])
    have hf : pf (s.data.toList.drop s.size) = some [] := by rw [List.drop_eq_nil_of_le (by simp)]; rfl
    have HF := Lib.hid hf; clear hf hbig hmost
    go_enter Try.func20, Try.ntmps20
    go_wp2
    go_loopg [6, 7] s.size (fun g v i wr => ∃ (j n : Nat) (ts : List Tr) (vals : List Value), j ≤ s.size ∧ g = j ∧ i = .int .i64 ((j : Int) - 1) ∧ Aside (pf (s.data.toList.drop j) = some ts) ∧ Aside (n = ts.length) ∧ Nodes 101 wr ts vals ∧
      wr.ownsRow w.heap.size 24 1 v n vals.reverse ∧ Below w.heap.size w wr)
    case atStart => exact ⟨s.size, 0, [], [], Nat.le_refl _, rfl, rfl, HF.out, rfl, trivial, World.ownsRow_nil _ _ _ _, Below.refl _ _⟩
    case round =>
      obtain ⟨j, n, ts, vals, hj, hg, hi, hp, hnl, hNs, hown, hb⟩ := hrel
      have HG := Lib.hid hg; clear hg
      have hsz := hb.size
      have hlen := pf_length _ _ hp.out
      have hnn : n ≤ s.size - j := by rw [hnl.out]; simpa using hlen
      clear hlen
      obtain ⟨sa, sc, rfl⟩ := own_len hown
      cases j with
      | succ q =>
        rw [show (((q + 1 : Nat) : Int) - 1) = (q : Int) from by omega] at hi
        subst hi
        have hq : q < s.size := by omega
        have hnI : (n : Int) ≤ 2000000 := by omega
        by_cases h8 : (s[q].toNat : Int) = 48
        · have HT : Aside (pf (s.data.toList.drop q) = some (.nil :: ts)) := pf_step_48 hq h8 hp.out
          go_wp2_with (at_builtin; refine app_new el_cell rfl _ _ rfl rfl hown [.pointer none] 1 rfl rfl ?c1 ?c2 ?c3 hsz hb (Nat.le_refl _) ?_)
          case c1 => intro u hu; simp at hu; rcases hu with rfl; rfl
          case c2 => omega
          case c3 => unfold maxLen; omega
          intro v' w' hown' hb' hgr
          have hN' := hNs.kept (Kept.grew hown hgr (by decide))
          clear hown hb hNs
          go_wp2
          go_roundg q
          case measure => rw [HG.out]; omega
          case rel => exact ⟨q, n + 1, .nil :: ts, .pointer none :: vals, by omega, rfl, rfl, HT, (by show _ = _; rw [hnl.out]; rfl), ⟨rfl, hN'⟩, by simpa using hown', hb'⟩
        · have b8 : ((s[q].toNat : Int) == 48) = false := beq_eq_false_iff_ne.2 h8
          by_cases h9 : (s[q].toNat : Int) = 49
          · by_cases h2 : 2 ≤ n
            · obtain ⟨n, rfl⟩ : ∃ m, n = m + 2 := ⟨n - 2, by omega⟩
              have hts : ∃ a b r, ts = a :: b :: r := by
                have h3 := hnl.out
                match ts, h3 with
                | a :: b :: r, _ => exact ⟨a, b, r, rfl⟩
                | [], h3 => simp at h3
                | [a], h3 => simp at h3
              obtain ⟨a, b, r, rfl⟩ := hts
              obtain ⟨va, vals, rfl, ha, hNq⟩ := hNs.uncons
              obtain ⟨vb, vals, rfl, hbb, hNr⟩ := hNq.uncons
              clear hNs hNq
              have hnr : n = r.length := by have := hnl.out; simpa using this
              have hvl := hNr.length
              have HT : Aside (pf (s.data.toList.drop q) = some (.pair a b :: r)) := pf_step_49 hq h9 hp.out
              obtain ⟨sg, cap, hsv, hg1, hg2, hnc, hcm, hcell, hfz⟩ := own_cells hown (by omega)
              simp only [Value.slice.injEq] at hsv
              obtain ⟨rfl, -, rfl⟩ := hsv
              have c1 : wr.cell? ⟨sg, n + 1, none⟩ = some va := by
                rw [hcell _ (by omega), List.reverse_cons, List.getElem?_append_right (by simp; omega)]; simp [hvl, hnr]
              have c2 : wr.cell? ⟨sg, n, none⟩ = some vb := by
                rw [hcell _ (by omega), List.reverse_cons, List.reverse_cons, List.append_assoc, List.getElem?_append_right (by simp; omega)]; simp [hvl, hnr]
              have hpop : wr.ownsRow w.heap.size 24 1 (.slice (some ⟨sg, 0, none⟩) n sc) n vals.reverse :=
                ownsRow_pop (last := [vb]) (by simp [hvl, hnr]) (ownsRow_pop (last := [va]) (by simp [hvl, hnr]) (by rw [List.reverse_cons, List.reverse_cons] at hown; exact hown))
              have hzab : (Tr.pair a b).size ≤ 2000000 := by
                have h3 := congrArg List.length (pf_flat _ _ HT.out)
                simp [Tr.enc_length] at h3; omega
              obtain ⟨va, rfl⟩ := ha.ptr
              obtain ⟨vb, rfl⟩ := hbb.ptr
              have e1 : ((n : Int) + 2 - 1).toNat = n + 1 := by omega
              have e3 : ((n : Int) + 1).toNat = n + 1 := by omega
              have o1 : (0 : Int) ≤ (n : Int) + 1 := by omega
              have o2 : (n : Int) + 1 < (n : Int) + 2 := by omega
              have o3 : (n : Int) < (n : Int) + 2 := by omega
              have o8 : (n : Int) ≤ (sc : Int) := by omega
              have d2 : decide ((1 : Int) < (n : Int) + 2) = true := decide_eq_true (by omega)
              have d3 : (1 : Int) < (n : Int) + 2 := by omega
              clear h2
              have hc0 := tpair_ok a b _ _ wr.drew (ha.kept (Kept.drew (Kept.refl _ _))) (hbb.kept (Kept.drew (Kept.refl _ _))) (by simp only [Tr.size] at hzab; omega) (by simp only [Tr.size] at hzab; omega)
              have HC := Lib.hid hc0
              have HV := Lib.hid hvl; have HR := Lib.hid hnr
              clear hc0 hzab hcell hfz hown hvl hnr ha hbb
              go_wp2
              have W1 : IntKind.i64.wrap (n : Int) = n := IntWalk.i64_in _ (by omega)
              have W2 : IntKind.i64.wrap ((n : Int) + 2 - 1) = (n : Int) + 1 := by rw [IntWalk.i64_in _ (by omega)]; omega
              go_region_law ((first
                | (refine step_new el_cell (by rfl) _ _ (by rfl) (by rfl) (own_below hpop (by first | exact k6 | exact k6.drew)) [.pointer (some p5)] 1 (by rfl) (by rfl) (by decide) (by intro u hu; simp at hu; subst hu; rfl) (by omega) (by unfold maxLen; omega) (by have h1 := k6.size; simp; omega) (hb.trans ((by first | exact k6 | exact k6.drew : Below wr.heap.size wr _).mono hsz)) (Nat.le_refl _) ?_; intro g4 cp4 w4 hown4 hb4 hg4)
                | (go_simp; refine HC.out.mono ?_; rintro e w5 ⟨p5, rfl, hp5, k5⟩; have k6 := below_of_drew k5)))
              all_goals
                have hN5 := hNr.kept (Kept.below k6)
                have hkk := Kept.grew (T := 101) (own_below hpop (by first | exact k6 | exact k6.drew)) hg4 (by decide)
                have hN' := hN5.kept (by first | exact hkk | exact Kept.of_drew hkk)
                have hp' := hp5.kept (by first | exact hkk | exact Kept.of_drew hkk)
                clear hpop hb hN5 hp5 hkk hNr c1 c2 k5 k6 HC
                go_wp2
                go_roundg q
                case measure => rw [HG.out]; omega
                case rel => exact ⟨q, n + 1, .pair a b :: r, .pointer (some p5) :: vals, by omega, rfl, rfl, HT, (by show _ = _; rw [HR.out]; rfl), ⟨hp', hN'⟩, by simpa using hown4, hb4⟩
            · have hbad := Lib.hid (pf_step_few hq h9 hp.out (by rw [← hnl.out]; omega))
              have h2I : ¬ (1 : Int) < n := by omega
              clear h2
              go_wp2
              go_ret2
              exact GrowOut.bad (HGB.out.trans hbad.out) rfl hb
          · have hbad := Lib.hid (pf_step_else hq h8 h9)
            have b9 : ((s[q].toNat : Int) == 49) = false := beq_eq_false_iff_ne.2 h9
            go_wp2
            go_ret2
            exact GrowOut.bad (HGB.out.trans hbad.out) rfl hb
      | zero =>
        rw [show (((0 : Nat) : Int) - 1) = -1 from rfl] at hi
        subst hi
        have hp' := hp.out
        rw [List.drop_zero] at hp'
        have ht := pf_len_tree hp' (by omega)
        by_cases h1 : n = 1
        · subst h1
          have hts : ∃ t, ts = [t] := by
            have h3 := hnl.out
            match ts, h3 with
            | [t], _ => exact ⟨t, rfl⟩
            | [], h3 => simp at h3
            | a :: b :: r, h3 => simp at h3
          obtain ⟨t, rfl⟩ := hts
          obtain ⟨v, us, rfl, hv, hus⟩ := hNs.uncons
          obtain rfl := hus.nil_iff
          obtain ⟨sg, cap, hsv, hg1, hg2, hnc, hcm, hcell, hfz⟩ := own_cells hown (by omega)
          simp only [Value.slice.injEq] at hsv
          obtain ⟨rfl, -, rfl⟩ := hsv
          obtain ⟨pv, rfl⟩ := hv.ptr
          have c1 : wr.cell? ⟨sg, 0, none⟩ = some (.pointer pv) := by rw [hcell _ (by omega)]; rfl
          have hst : s = TS t := ba_ext (by rw [TS_list, pf_flat _ _ hp']; simp)
          have HS := Lib.hid hst
          have HT := Lib.hid ht
          clear hcell hfz hown ht hp' hp hst
          go_wp2
          go_ret2
          refine ⟨pv, by rw [HGB.out, HT.out]; rfl, fun _ => ?_, fun h => (by rw [HGB.out, HT.out] at h; cases h), hb⟩
          have hz : t.size ≤ 2000000 := by have h9 := TS_size t; rw [← HS.out] at h9; omega
          rw [HS.out, toTr_TS t hz]; exact hv
        · have hbad : isTree s = false := by rw [ht, ← hnl.out]; exact decide_eq_false h1
          have HB := Lib.hid hbad
          have h1b : ((n : Int) != 1) = true := by rw [bne_iff_ne]; omega
          clear hbad ht hp' hp h1
          go_wp2
          go_ret2
          exact GrowOut.bad (HGB.out.trans HB.out) rfl hb

theorem tequal_any (t t' : Tr) (va vb : Value) (w : World) (h1 : NodeP 101 w t va) (h2 : NodeP 101 w t' vb) (hs : t.size ≤ 4000001) (hs' : t'.size ≤ 4000001) :
    Calls Try.prog 63 #[va, vb] w fun e w' => e = .returned (.bool (decide (t = t'))) ∧ Below w.heap.size w w' := by
  have ks1 := Lib.hid (fun w (h : NodeP 101 w t va) => tsize_any t va w h)
  have ks2 := Lib.hid (fun w (h : NodeP 101 w t' vb) => tsize_any t' vb w h)
  have kt1 := Lib.hid (fun w (h : NodeP 101 w t va) => ttext_any t va w h hs)
  have kt2 := Lib.hid (fun w (h : NodeP 101 w t' vb) => ttext_any t' vb w h hs')
  obtain ⟨pa, rfl⟩ := h1.ptr
  obtain ⟨pb, rfl⟩ := h2.ptr
  obtain ⟨za, hza⟩ : ∃ z, t.size = z := ⟨_, rfl⟩
  obtain ⟨zb, hzb⟩ : ∃ z, t'.size = z := ⟨_, rfl⟩
  have HZA := Lib.hid hza
  have HZB := Lib.hid hzb
  rw [hza] at ks1
  rw [hzb] at ks2
  have hA := Lib.hid h1
  have hB := Lib.hid h2
  have hzaI : (za : Int) ≤ 4000001 := by omega
  have hzbI : (zb : Int) ≤ 4000001 := by omega
  clear h1 h2 hza hzb hs hs'
  by_cases hz : za = zb
  · have hzz : ((za : Int) == (zb : Int)) = true := by rw [beq_iff_eq]; omega
    obtain ⟨sa, hsa⟩ : ∃ s, TS t = s := ⟨_, rfl⟩
    obtain ⟨sb, hsb⟩ : ∃ s, TS t' = s := ⟨_, rfl⟩
    rw [hsa] at kt1
    rw [hsb] at kt2
    have HT := Lib.hid (show decide (t = t') = (sa.toList == sb.toList) by
      rw [← hsa, ← hsb]
      by_cases h : t = t'
      · subst h; simp
      · rw [decide_eq_false h, eq_comm, beq_eq_false_iff_ne]
        intro e
        exact h (TS_inj (ba_ext (by simpa [ByteArray.toList_eq] using e))))
    obtain ⟨D, hD⟩ : ∃ D, decide (t = t') = D := ⟨_, rfl⟩
    rw [hD] at HT ⊢
    clear hz hsa hsb hD
    go_enter Try.func63, Try.ntmps63
    go_wp2_with fail
    refine (ks1.out _ hA.out).mono ?_
    rintro e wq ⟨rfl, rfl⟩
    go_wp2_with fail
    refine (ks2.out _ hB.out).mono ?_
    rintro e wq ⟨rfl, rfl⟩
    go_wp2_with fail
    refine (kt1.out _ hA.out).mono ?_
    rintro e w1 ⟨rfl, hb1⟩
    have hB1 := Lib.hid (hB.out.kept (Kept.below hb1))
    have HB1 := Lib.hid hb1
    clear hb1
    go_wp2_with fail
    refine (kt2.out _ hB1.out).mono ?_
    rintro e w2 ⟨rfl, hb2⟩
    have HB2 := Lib.hid (HB1.out.trans (hb2.mono HB1.out.size))
    clear hb2
    go_wp2
    go_ret
    exact ⟨by rw [HT.out]; rfl, HB2.out⟩
  · have hzz : ((za : Int) == (zb : Int)) = false := by rw [beq_eq_false_iff_ne]; omega
    have HD := Lib.hid (show decide (t = t') = false from decide_eq_false (fun e => hz (by rw [← HZA.out, ← HZB.out, e])))
    clear hz
    go_enter Try.func63, Try.ntmps63
    go_wp2_with fail
    refine (ks1.out _ hA.out).mono ?_
    rintro e wq ⟨rfl, rfl⟩
    go_wp2_with fail
    refine (ks2.out _ hB.out).mono ?_
    rintro e wq ⟨rfl, rfl⟩
    go_wp2
    go_ret
    exact ⟨by rw [HD.out]; rfl, Below.refl _ _⟩
end Go.Proofs.Ytdjbcmfjlfkcjaa


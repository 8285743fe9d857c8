/- The walks of narcissusref01's nodes: Size, First, Rest, Text, Cons, Read. -/
import Derived.Test.YtaiomcjopgnfpaaNodeP
import Derived.Test.YtaiomcjopgnfpaaRefT
import Derived.Test.YtaiomcjopgnfpaaDepth
namespace Go.Proofs.Ytaiomcjopgnfpaa
open Go.RowKit

theorem rnodeSize_any (t : Tr) (v : Value) (w : World) (h : NodeP 69 w t v) :
    Calls Try.prog 65 #[v] w fun e w' => e = .returned (.int .i64 t.size) ∧ w = w' := by
  cases t with
  | nil =>
    have hv : v = .pointer none := h
    subst hv
    go_enter Try.func65, Try.ntmps65
    go_wp2
    go_ret
    exact ⟨rfl, rfl⟩
  | pair a b =>
    obtain ⟨g, x, y, rfl, hg, c0, c1, c2, ha, hb⟩ := h.cells
    go_enter Try.func65, Try.ntmps65
    go_wp2
    go_ret
    exact ⟨rfl, rfl⟩
theorem rnodeHead_any (t : Tr) (v : Value) (w : World) (h : NodeP 69 w t v) :
    Calls Try.prog 153 #[v] w fun e w' => ∃ x, e = .returned (.pointer x) ∧ NodeP 69 w t.hd (.pointer x) ∧ w = w' := by
  cases t with
  | nil =>
    have hv : v = .pointer none := h
    subst hv
    go_enter Try.func153, Try.ntmps153
    go_wp2
    go_ret
    exact ⟨none, rfl, rfl, rfl⟩
  | pair a b =>
    obtain ⟨g, x, y, rfl, hg, c0, c1, c2, ha, hb⟩ := h.cells
    go_enter Try.func153, Try.ntmps153
    go_wp2
    go_ret
    exact ⟨x, rfl, ha, rfl⟩
theorem rnodeTail_any (t : Tr) (v : Value) (w : World) (h : NodeP 69 w t v) :
    Calls Try.prog 154 #[v] w fun e w' => ∃ x, e = .returned (.pointer x) ∧ NodeP 69 w t.tl (.pointer x) ∧ w = w' := by
  cases t with
  | nil =>
    have hv : v = .pointer none := h
    subst hv
    go_enter Try.func154, Try.ntmps154
    go_wp2
    go_ret
    exact ⟨none, rfl, rfl, rfl⟩
  | pair a b =>
    obtain ⟨g, x, y, rfl, hg, c0, c1, c2, ha, hb⟩ := h.cells
    go_enter Try.func154, Try.ntmps154
    go_wp2
    go_ret
    exact ⟨y, rfl, hb, rfl⟩

set_option maxHeartbeats 2000000 in
theorem rnodeText_any (t : Tr) (v : Value) (w : World) (h : NodeP 69 w t v) (hs : t.size ≤ 4000001) :
    Calls Try.prog 101 #[v] w fun e w' => e = .returned (.string (TS t)) ∧ Below w.heap.size w w' := by
  have hsI : (t.size : Int) ≤ 4000001 := by omega
  have hs1 : (1 : Int) ≤ t.size := by have := t.size_pos; omega
  obtain ⟨i0, hi0, hz0, hz1, hz2⟩ := info_parts el_u8.hi
  obtain ⟨pv, rfl⟩ := h.ptr
  obtain ⟨S, hS⟩ : ∃ S, TS t = S := ⟨_, rfl⟩
  rw [hS]
  have HS := Lib.hid hS; clear hS
  have hsize := rnodeSize_any t _ w h
  go_enter Try.func101, Try.ntmps101
  go_wp2_with fail
  refine hsize.mono ?_
  rintro e w1 ⟨rfl, rfl⟩
  clear hsize
  go_wp2_with (at_make; refine wpList_make_own _ rfl _ _ 126 rfl w.heap.size 5 i0 _ 1 el_u8.ht hi0 hz0 hz1 _ _ _ t.size rfl rfl rfl ?b1 ?b2 ?b3 ?_)
  case b1 => rw [hz2]; omega
  case b2 => unfold maxLen; omega
  case b3 => exact Nat.le_refl _
  intro w1 hown hg
  have hb : Below w.heap.size w w1 := (Below.refl _ _).grown hg (Nat.le_refl _) (by simp)
  have hsz1 := hb.size
  have hk1 : Kept 69 w w1 := Kept.below hb
  have hN : NodeP 69 w1 t (.pointer pv) := h.kept hk1
  clear hg hk1 h
  go_wp2
  have hst : (w1.alloc (.cells #[.pointer pv] 63)).ownsRow w.heap.size 63 1 (.slice (some ⟨w1.heap.size, 0, none⟩) 1 1) 1 [.pointer pv] := World.ownsRow_lit w1 _ 1 hsz1 (by decide) rfl
  have hown2 := hown.alloc (.cells #[.pointer pv] 63)
  have hN2 : NodeP 69 (w1.alloc (.cells #[.pointer pv] 63)) t (.pointer pv) := hN.kept ((Kept.refl _ _).alloc _)
  have hb2 : Below w.heap.size w (w1.alloc (.cells #[.pointer pv] 63)) := hb.alloc hsz1 _
  clear hown hb hN
  generalize w1.alloc (.cells #[.pointer pv] 63) = w2 at *
  go_loopg [3, 4] t.size (fun g ov sv wr => ∃ (us : List Tr) (vals : List Value) (done : List UInt8) (n m : Nat), Aside (g = szs us) ∧ n ≤ t.size ∧ m ≤ t.size ∧ Aside (t.enc = done ++ (us.map Tr.enc).flatten) ∧ Nodes 69 wr us vals ∧ Aside (m = us.length) ∧
      wr.ownsRow w.heap.size 5 1 ov n (Lib.byteCells done) ∧ wr.ownsRow w.heap.size 63 1 sv m vals.reverse ∧ Below w.heap.size w wr)
  case atStart => exact ⟨[t], [.pointer pv], [], 0, 1, (by show _ = _; simp [szs]), by omega, by omega, (by show _ = _; simp), ⟨hN2, trivial⟩, rfl, hown2, hst, hb2⟩
  case round =>
    clear hst hown2 hN2 hb2
    obtain ⟨us, vals, done, n, m, hg, hn, hm, he, hNs, hml, hown, hst, hb⟩ := hrel
    have hsz := hb.size
    have hnd : n = done.length := by have := hown.1; simpa [Lib.byteCells] using this.symm
    have hlen : done.length + szs us = t.size := by
      have h3 := congrArg List.length he.out
      rw [List.length_append, szs_flat, Tr.enc_length] at h3; omega
    cases us with
    | nil =>
      have hm0 : m = 0 := hml.out
      subst hm0
      obtain ⟨sa, sc, rfl⟩ := own_len hst
      have hed : t.enc = done := by have := he.out; simpa using this
      have hcv := own_bytes (P := Try.prog) done hown 126 Try.underlying126 Try.underlying5 9 Try.underlying9
      have HE := Lib.hid hed
      clear hed hg he hml hlen hnd hown
      go_wp2
      go_ret
      exact ⟨by rw [← HS.out]; unfold TS; rw [HE.out]; rfl, hb⟩
    | cons u us =>
      obtain ⟨v, vals, rfl, hv, hvs⟩ := hNs.uncons
      obtain ⟨m, rfl⟩ : ∃ q, m = q + 1 := ⟨us.length, hml.out⟩
      have hul := u.size_pos
      have hszs : szs (u :: us) = u.size + szs us := by simp [szs]
      have hus : us.length ≤ szs us := by
        have : ∀ l : List Tr, l.length ≤ szs l := fun l => by
          induction l with
          | nil => simp [szs]
          | cons a l ih => have := a.size_pos; simp [szs] at *; omega
        exact this us
      have hmu : m = us.length := by have := hml.out; simpa using this
      obtain ⟨sg, cap, rfl, hg1, hg2, hnc, hcm, hcell, hfz⟩ := own_cells hst (by omega)
      have hvl := hvs.length
      have c1 : wr.cell? ⟨sg, m, none⟩ = some v := by
        rw [hcell _ (by omega), List.reverse_cons, List.getElem?_append_right (by simp; omega)]; simp [hvl, hmu]
      have hpop : wr.ownsRow w.heap.size 63 1 (.slice (some ⟨sg, 0, none⟩) m cap) m vals.reverse := ownsRow_pop (last := [v]) (by simp [hvl, hmu]) (by rw [List.reverse_cons] at hst; exact hst)
      have hmI : (m : Int) ≤ (cap : Int) := by omega
      have hm2 : (m : Int) ≤ 4000001 := by omega
      have hn2 : (n : Int) ≤ 4000001 := by omega
      have HND := Lib.hid hnd; have HL := Lib.hid hlen; have HZ := Lib.hid hszs; have HU := Lib.hid hus; have HMU := Lib.hid hmu
      clear hnd hlen hszs hus hmu hcell hfz hst hvl hNs hml
      cases u with
      | nil =>
        have hv0 : v = .pointer none := hv
        subst hv0
        have hb1 : n + 1 ≤ t.size := by have := HL.out; have := HZ.out; have := HND.out; omega
        go_wp2_with (at_builtin; refine app_new el_u8 rfl _ _ rfl rfl hown [.int .u8 48] 1 rfl rfl ?c1 ?c2 ?c3 hsz hb (Nat.le_refl _) ?_)
        case c1 => intro u hu; simp at hu; rcases hu with rfl; rfl
        case c2 => omega
        case c3 => unfold maxLen; omega
        intro ov' w3 hown' hb' hgr
        have hN' := hvs.kept (Kept.grew hown hgr (by decide))
        have hst' := own_other hown hpop hgr (by decide)
        clear hown hpop hb hvs hv c1
        go_wp2
        go_roundg (szs us)
        case measure => rw [hg.out, HZ.out]; omega
        case rel =>
          refine ⟨us, vals, done ++ [48], n + 1, m, rfl, hb1, by omega, ?_, hN', HMU.out, ?_, hst', hb'⟩
          · show _ = _; rw [he.out]; simp [Tr.enc]
          · simpa [Lib.byteCells] using hown'
      | pair a b =>
        obtain ⟨ng, x, y, rfl, hng, d0, d1, d2, ha, hb9⟩ := hv.cells
        obtain ⟨ng', x', y', hvv, hblk, _, _⟩ := hv
        obtain rfl : ng = ng' := by simpa using hvv
        have hx' : x' = .pointer x := by have h3 := (block_cells hblk).1 0; rw [d0] at h3; simpa using h3.symm
        have hy' : y' = .pointer y := by have h3 := (block_cells hblk).1 1; rw [d1] at h3; simpa using h3.symm
        subst hx'; subst hy'
        have hab : (Tr.pair a b).size = 1 + a.size + b.size := rfl
        have ha1 := a.size_pos
        have hb1' := b.size_pos
        have hb1 : n + 1 ≤ t.size := by have := HL.out; have := HZ.out; have := HND.out; omega
        have hm3 : m + 2 ≤ t.size := by have := HL.out; have := HZ.out; have := HU.out; have := HMU.out; omega
        go_wp2_with (at_builtin; refine app_new el_u8 rfl _ _ rfl rfl hown [.int .u8 49] 1 rfl rfl ?c1 ?c2 ?c3 hsz hb (Nat.le_refl _) ?_)
        case c1 => intro u hu; simp at hu; rcases hu with rfl; rfl
        case c2 => omega
        case c3 => unfold maxLen; omega
        intro ov' w3 hown' hb' hgr
        have hkk : Kept 69 wr w3 := Kept.grew hown hgr (by decide)
        have hblk3 := hkk _ _ hblk
        have hvs3 := hvs.kept hkk
        have ha3 := ha.kept hkk
        have hb3 := hb9.kept hkk
        have hst' := own_other hown hpop hgr (by decide)
        have hsz3 := hb'.size
        have hab' := hab
        have HAB := Lib.hid hab
        clear hab hab' hown hpop hb hvs c1 d0 d1 d2 ha hb9 hblk hkk hgr
        have e0 := (block_cells hblk3).1 0
        have e1 := (block_cells hblk3).1 1
        have HB3 := Lib.hid hblk3; clear hblk3
        go_wp2
        go_region_held3 (fun w' => w'.cell? ⟨ng, 0, none⟩ = some (.pointer x) ∧ w'.cell? ⟨ng, 1, none⟩ = some (.pointer y))
          (first | exact keepS HB3.out (Kept.drew (Kept.refl _ _)) | exact keepS HB3.out (Kept.drew ((Kept.refl _ _).alloc _)) | exact keepS HB3.out (Kept.of_drew (Kept.grew hst'.drew hgr4 (by decide))))
          ((refine step_new el_rnode (by rfl) _ _ (by rfl) (by rfl) (hst'.drew) [.pointer y, .pointer x] 2 (by rfl) (by rfl) (by decide) (by intro u hu; simp at hu; rcases hu with rfl | rfl <;> rfl) (by omega) (by unfold maxLen; omega) hsz3 hb'.drew (Nat.le_refl _) ?_; intro g4 cap4 w4 hst4 hb4 hgr4))
        all_goals
          have hkk4 : Kept 69 w3 w4 := Kept.of_drew (Kept.grew hst'.drew hgr4 (by decide))
          have hN4 := hvs3.kept hkk4
          have ha4 := ha3.kept hkk4
          have hb44 := hb3.kept hkk4
          have hown4 := own_other hst'.drew hown'.drew hgr4 (by decide)
          clear hvs3 ha3 hb3 hown' hst' e0 e1
          go_wp2
          go_roundg (szs (a :: b :: us))
          case measure => rw [hg.out, HZ.out, HAB.out]; simp [szs]; omega
          case rel =>
            refine ⟨a :: b :: us, .pointer x :: .pointer y :: vals, done ++ [49], n + 1, m + 2, rfl, hb1, hm3, ?_, ⟨ha4, hb44, hN4⟩, ?_, ?_, ?_, hb4⟩
            · show _ = _; rw [he.out]; simp [Tr.enc]
            · show _ = _; rw [HMU.out]; simp
            · simpa [Lib.byteCells] using hown4
            · simpa using hst4

theorem rnodeCons_ok (a b : Tr) (x y : Value) (w : World) (ha : NodeP 69 w a x) (hb : NodeP 69 w b y) (h1 : a.size ≤ 4000001) (h2 : b.size ≤ 4000001) :
    Calls Try.prog 51 #[x, y] w fun e w' => ∃ p, e = .returned (.pointer (some p)) ∧ NodeP 69 w' (.pair a b) (.pointer (some p)) ∧ Below w.heap.size w w' := by
  have s1 := rnodeSize_any a x w ha
  have s2 := rnodeSize_any b y w hb
  have hn := NodeP.new ha hb
  obtain ⟨x, rfl⟩ := ha.ptr
  obtain ⟨y, rfl⟩ := hb.ptr
  obtain ⟨sz, hsz⟩ : ∃ q, (Tr.pair a b).size = q := ⟨_, rfl⟩
  rw [hsz] at hn
  have ht : ((1 + a.size + b.size : Nat) : Int) = sz := by rw [← hsz]; rfl
  have e1 : (1 : Int) + a.size + b.size = sz := by omega
  have a1 : (a.size : Int) ≤ 4000001 := by omega
  have a2 : (b.size : Int) ≤ 4000001 := by omega
  clear hsz ht h1 h2
  go_enter Try.func51, Try.ntmps51
  go_wp2_with fail
  refine s1.mono ?_
  rintro e w1 ⟨rfl, rfl⟩
  go_wp2_with fail
  refine s2.mono ?_
  rintro e w1 ⟨rfl, rfl⟩
  clear s1 s2
  go_wp2
  go_ret
  exact ⟨_, rfl, hn, (Below.refl _ _).alloc (Nat.le_refl _) _⟩

set_option maxHeartbeats 4000000 in
theorem read_ok (t : Tr) (hs : t.size ≤ 2000000) (w : World) :
    Calls Try.prog 50 #[.string (TS t)] w fun e w' => ∃ p, e = .returned (.pointer p) ∧ NodeP 69 w' t (.pointer p) ∧ Below w.heap.size w w' := by
  have hz : (TS t).size = t.size := TS_size t
  have h1 : (1 : Int) ≤ t.size := by have := t.size_pos; omega
  have h2 : (t.size : Int) ≤ 2000000 := by omega
  have hf : pf (t.enc.drop t.size) = some [] := by rw [List.drop_eq_nil_of_le (by rw [Tr.enc_length]; exact Nat.le_refl _)]; rfl
  have HF := Lib.hid hf; clear hf hs
  go_enter Try.func50, Try.ntmps50
  go_wp2
  go_loopg [3, 4] t.size (fun g v i wr => ∃ (j n : Nat) (ts : List Tr) (vals : List Value), j ≤ t.size ∧ g = j ∧ i = .int .i64 ((j : Int) - 1) ∧ Aside (pf (t.enc.drop j) = some ts) ∧ Aside (n = ts.length) ∧ Nodes 69 wr ts vals ∧
    wr.ownsRow w.heap.size 63 1 v n vals.reverse ∧ Below w.heap.size w wr)
  case atStart => exact ⟨t.size, 0, [], [], Nat.le_refl _, rfl, rfl, HF.out, rfl, trivial, World.ownsRow_nil _ _ _ _, Below.refl _ _⟩
  case round =>
    obtain ⟨j, n, ts, vals, hj, hg, hi, hp, hnl, hNs, hown, hb⟩ := hrel
    have HG := Lib.hid hg; clear hg
    have hsz := hb.size
    have hlen := pf_length _ _ hp.out
    rw [List.length_drop, Tr.enc_length] at hlen
    have hnn : n ≤ t.size - j := by rw [hnl.out]; exact hlen
    clear hlen
    obtain ⟨sa, sc, rfl⟩ := own_len hown
    cases j with
    | succ q =>
      rw [show (((q + 1 : Nat) : Int) - 1) = (q : Int) from by omega] at hi
      subst hi
      have hq : q < (TS t).size := by omega
      have hnI : (n : Int) ≤ 2000000 := by omega
      obtain ⟨us, ts', hu, ht, hcase⟩ := pf_at t q hq
      obtain rfl : us = ts := by have := hp.out; rw [hu] at this; simpa using this
      clear hp hu
      have HT : Aside (pf (t.enc.drop q) = some ts') := ht
      clear ht
      rcases hcase with ⟨h8, rfl⟩ | ⟨h9, a, b, r, rfl, rfl⟩
      · go_wp2_with (at_builtin; refine app_new el_rnode rfl _ _ rfl rfl hown [.pointer none] 1 rfl rfl ?c1 ?c2 ?c3 hsz hb (Nat.le_refl _) ?_)
        case c1 => intro u hu; simp at hu; rcases hu with rfl; rfl
        case c2 => omega
        case c3 => unfold maxLen; omega
        intro v' w' hown' hb' hgr
        have hN' := hNs.kept (Kept.grew hown hgr (by decide))
        clear hown hb hNs
        go_wp2
        go_roundg q
        case measure => rw [HG.out]; omega
        case rel => exact ⟨q, n + 1, .nil :: us, .pointer none :: vals, by omega, rfl, rfl, HT, (by show _ = _; rw [hnl.out]; rfl), ⟨rfl, hN'⟩, by simpa using hown', hb'⟩
      · have b8 : (((TS t)[q].toNat : Int) == 48) = false := beq_eq_false_iff_ne.2 (by omega)
        have hn2 : n = r.length + 2 := by have := hnl.out; simpa using this
        obtain ⟨m, hm⟩ : ∃ m, r.length = m := ⟨_, rfl⟩
        rw [hm] at hn2
        subst hn2
        obtain ⟨va, vals, rfl, ha, hNq⟩ := hNs.uncons
        obtain ⟨vb, vals, rfl, hbb, hNr⟩ := hNq.uncons
        clear hNs hNq
        have hvl := hNr.length
        obtain ⟨sg, cap, hsv, hg1, hg2, hnc, hcm, hcell, hfz⟩ := own_cells hown (by omega)
        simp only [Value.slice.injEq] at hsv
        obtain ⟨rfl, -, rfl⟩ := hsv
        have c1 : wr.cell? ⟨sg, m + 1, none⟩ = some va := by
          rw [hcell _ (by omega), List.reverse_cons, List.getElem?_append_right (by simp; omega)]; simp [hvl, hm]
        have c2 : wr.cell? ⟨sg, m, none⟩ = some vb := by
          rw [hcell _ (by omega), List.reverse_cons, List.reverse_cons, List.append_assoc, List.getElem?_append_right (by simp; omega)]; simp [hvl, hm]
        have hpop : wr.ownsRow w.heap.size 63 1 (.slice (some ⟨sg, 0, none⟩) m sc) m vals.reverse :=
          ownsRow_pop (last := [vb]) (by simp [hvl, hm]) (ownsRow_pop (last := [va]) (by simp [hvl, hm]) (by rw [List.reverse_cons, List.reverse_cons] at hown; exact hown))
        have hzab : (Tr.pair a b).size ≤ t.size := by
          have h3 := congrArg List.length (pf_flat _ _ HT.out)
          simp [Tr.enc_length] at h3; omega
        have hzz : (Tr.pair a b).size = 1 + a.size + b.size := rfl
        obtain ⟨va, rfl⟩ := ha.ptr
        obtain ⟨vb, rfl⟩ := hbb.ptr
        have e1 : ((m : Int) + 2 - 1).toNat = m + 1 := by omega
        have e3 : ((m : Int) + 1).toNat = m + 1 := by omega
        have o1 : (0 : Int) ≤ (m : Int) + 1 := by omega
        have o2 : (m : Int) + 1 < (m : Int) + 2 := by omega
        have o3 : (m : Int) < (m : Int) + 2 := by omega
        have o8 : (m : Int) ≤ (sc : Int) := by omega
        have hc0 := rnodeCons_ok a b _ _ wr.drew (ha.kept (Kept.drew (Kept.refl _ _))) (hbb.kept (Kept.drew (Kept.refl _ _))) (by omega) (by omega)
        have HC := Lib.hid hc0
        have HV := Lib.hid hvl; have HR := Lib.hid hm
        clear hc0 hzab hzz hcell hfz hown hvl hm ha hbb
        go_wp2
        have W1 : IntKind.i64.wrap (m : Int) = m := IntWalk.i64_in _ (by omega)
        have W2 : IntKind.i64.wrap ((m : Int) + 2 - 1) = (m : Int) + 1 := by rw [IntWalk.i64_in _ (by omega)]; omega
        go_region_held3 (fun w' => w'.cell? ⟨sg, m + 1, none⟩ = some (.pointer va) ∧ w'.cell? ⟨sg, m, none⟩ = some (.pointer vb))
          (first | exact ⟨c1, c2⟩ | exact ⟨(k5.cell (p := ⟨sg, m + 1, none⟩) hg2).trans c1, (k5.cell (p := ⟨sg, m, none⟩) hg2).trans c2⟩)
          ((go_at_call 51; refine HC.out.mono ?_; rintro e w5 ⟨p5, rfl, hp5, k5⟩))
        all_goals
          have k6 : Below wr.heap.size wr w5 := below_of_drew k5
          have hb5 : Below w.heap.size w w5 := hb.trans (k6.mono hsz)
          have hN5 := hNr.kept (Kept.below k6)
          have hpop5 := own_below hpop k6
          have hs5 := hb5.size
          clear hNr hpop c1 c2 k5 k6 hb HC W1 W2
          go_wp2_with (at_builtin; refine app_new el_rnode rfl _ _ rfl rfl hpop5 [.pointer (some p5)] 1 rfl rfl ?c1 ?c2 ?c3 hs5 hb5 (Nat.le_refl _) ?_)
          case c1 => intro u hu; simp at hu; rcases hu with rfl; rfl
          case c2 => omega
          case c3 => unfold maxLen; omega
          intro v' w' hown' hb' hgr
          have hkk := Kept.grew (T := 69) hpop5 hgr (by decide)
          have hN' := hN5.kept hkk
          have hp' := hp5.kept hkk
          clear hpop5 hb5 hN5 hp5 hkk
          go_wp2
          go_roundg q
          case measure => rw [HG.out]; omega
          case rel => exact ⟨q, m + 1, .pair a b :: r, .pointer (some p5) :: vals, by omega, rfl, rfl, HT, (by show _ = _; rw [List.length_cons, HR.out]), ⟨hp', hN'⟩, by simpa using hown', hb'⟩
    | zero =>
      rw [show (((0 : Nat) : Int) - 1) = -1 from rfl] at hi
      subst hi
      have hp' := hp.out
      rw [List.drop_zero, pf_one] at hp'
      obtain rfl : [t] = ts := by simpa using hp'
      have hn1 : n = 1 := hnl.out
      subst hn1
      obtain ⟨v, us, rfl, hv, hus⟩ := hNs.uncons
      obtain rfl := hus.nil_iff
      obtain ⟨sg, cap, hsv, hg1, hg2, hnc, hcm, hcell, hfz⟩ := own_cells hown (by omega)
      simp only [Value.slice.injEq] at hsv
      obtain ⟨rfl, -, rfl⟩ := hsv
      obtain ⟨pv, rfl⟩ := hv.ptr
      have c1 : wr.cell? ⟨sg, 0, none⟩ = some (.pointer pv) := by rw [hcell _ (by omega)]; rfl
      clear hcell hfz hown hp' hp
      go_wp2
      go_ret
      exact ⟨pv, rfl, hv, hb⟩

end Go.Proofs.Ytaiomcjopgnfpaa

/- The walks of package node: Size, Head, Tail, String. -/
import Derived.Test.YtaiomcjopgnfpaaNodeP
import Derived.Test.YtaiomcjopgnfpaaRefT
namespace Go.Proofs.Ytaiomcjopgnfpaa
open Go.RowKit

theorem nodeSize_any (t : Tr) (v : Value) (w : World) (h : NodeP 135 w t v) :
    Calls Try.prog 117 #[v] w fun e w' => e = .returned (.int .i64 t.size) ∧ w = w' := by
  cases t with
  | nil =>
    have hv : v = .pointer none := h
    subst hv
    go_enter Try.func117, Try.ntmps117
    go_wp2
    go_ret
    exact ⟨rfl, rfl⟩
  | pair a b =>
    obtain ⟨g, x, y, rfl, hg, c0, c1, c2, ha, hb⟩ := h.cells
    go_enter Try.func117, Try.ntmps117
    go_wp2
    go_ret
    exact ⟨rfl, rfl⟩
theorem nodeHead_any (t : Tr) (v : Value) (w : World) (h : NodeP 135 w t v) :
    Calls Try.prog 135 #[v] w fun e w' => ∃ x, e = .returned (.pointer x) ∧ NodeP 135 w t.hd (.pointer x) ∧ w = w' := by
  cases t with
  | nil =>
    have hv : v = .pointer none := h
    subst hv
    go_enter Try.func135, Try.ntmps135
    go_wp2
    go_ret
    exact ⟨none, rfl, rfl, rfl⟩
  | pair a b =>
    obtain ⟨g, x, y, rfl, hg, c0, c1, c2, ha, hb⟩ := h.cells
    go_enter Try.func135, Try.ntmps135
    go_wp2
    go_ret
    exact ⟨x, rfl, ha, rfl⟩
theorem nodeTail_any (t : Tr) (v : Value) (w : World) (h : NodeP 135 w t v) :
    Calls Try.prog 136 #[v] w fun e w' => ∃ x, e = .returned (.pointer x) ∧ NodeP 135 w t.tl (.pointer x) ∧ w = w' := by
  cases t with
  | nil =>
    have hv : v = .pointer none := h
    subst hv
    go_enter Try.func136, Try.ntmps136
    go_wp2
    go_ret
    exact ⟨none, rfl, rfl, rfl⟩
  | pair a b =>
    obtain ⟨g, x, y, rfl, hg, c0, c1, c2, ha, hb⟩ := h.cells
    go_enter Try.func136, Try.ntmps136
    go_wp2
    go_ret
    exact ⟨y, rfl, hb, rfl⟩

set_option maxHeartbeats 2000000 in
theorem nodeText_any (t : Tr) (v : Value) (w : World) (h : NodeP 135 w t v) (hs : t.size ≤ 2000000) :
    Calls Try.prog 85 #[v] w fun e w' => e = .returned (.string (TS t)) ∧ Below w.heap.size w w' := by
  have hsI : (t.size : Int) ≤ 2000000 := by omega
  have hs1 : (1 : Int) ≤ t.size := by have := t.size_pos; omega
  obtain ⟨i0, hi0, hz0, hz1, hz2⟩ := info_parts el_u8.hi
  obtain ⟨pv, rfl⟩ := h.ptr
  obtain ⟨S, hS⟩ : ∃ S, TS t = S := ⟨_, rfl⟩
  rw [hS]
  have HS := Lib.hid hS; clear hS
  have hsize := nodeSize_any t _ w h
  go_enter Try.func85, Try.ntmps85
  go_wp2_with fail
  refine hsize.mono ?_
  rintro e w1 ⟨rfl, rfl⟩
  clear hsize
  go_wp2_with (at_make; refine wpList_make_own _ rfl _ _ 126 rfl w.heap.size 5 i0 _ 1 el_u8.ht hi0 hz0 hz1 _ _ _ t.size rfl rfl rfl ?b1 ?b2 ?b3 ?_)
  case b1 => rw [hz2]; omega
  case b2 => unfold maxLen; omega
  case b3 => exact Nat.le_refl _
  intro w1 hown hg
  have hb : Below w.heap.size w w1 := (Below.refl _ _).grown hg (Nat.le_refl _) (by simp)
  have hsz1 := hb.size
  have hk1 : Kept 135 w w1 := Kept.below hb
  have hN : NodeP 135 w1 t (.pointer pv) := h.kept hk1
  clear hg hk1 h
  go_wp2
  have hst : (w1.alloc (.cells #[.pointer pv] 99)).ownsRow w.heap.size 99 1 (.slice (some ⟨w1.heap.size, 0, none⟩) 1 1) 1 [.pointer pv] := World.ownsRow_lit w1 _ 1 hsz1 (by decide) rfl
  have hown2 := hown.alloc (.cells #[.pointer pv] 99)
  have hN2 : NodeP 135 (w1.alloc (.cells #[.pointer pv] 99)) t (.pointer pv) := hN.kept ((Kept.refl _ _).alloc _)
  have hb2 : Below w.heap.size w (w1.alloc (.cells #[.pointer pv] 99)) := hb.alloc hsz1 _
  clear hown hb hN
  generalize w1.alloc (.cells #[.pointer pv] 99) = w2 at *
  go_loopg [3, 4] t.size (fun g ov sv wr => ∃ (us : List Tr) (vals : List Value) (done : List UInt8) (n m : Nat), Aside (g = szs us) ∧ n ≤ t.size ∧ m ≤ t.size ∧ Aside (t.enc = done ++ (us.map Tr.enc).flatten) ∧ Nodes 135 wr us vals ∧ Aside (m = us.length) ∧
      wr.ownsRow w.heap.size 5 1 ov n (Lib.byteCells done) ∧ wr.ownsRow w.heap.size 99 1 sv m vals.reverse ∧ Below w.heap.size w wr)
  case atStart => exact ⟨[t], [.pointer pv], [], 0, 1, (by show _ = _; simp [szs]), by omega, by omega, (by show _ = _; simp), ⟨hN2, trivial⟩, rfl, hown2, hst, hb2⟩
  case round =>
    clear hst hown2 hN2 hb2
    obtain ⟨us, vals, done, n, m, hg, hn, hm, he, hNs, hml, hown, hst, hb⟩ := hrel
    have hsz := hb.size
    have hnd : n = done.length := by have := hown.1; simpa [Lib.byteCells] using this.symm
    have hlen : done.length + szs us = t.size := by
      have h3 := congrArg List.length he.out
      rw [List.length_append, szs_flat, Tr.enc_length] at h3; omega
    cases us with
    | nil =>
      have hm0 : m = 0 := hml.out
      subst hm0
      obtain ⟨sa, sc, rfl⟩ := own_len hst
      have hed : t.enc = done := by have := he.out; simpa using this
      have hcv := own_bytes (P := Try.prog) done hown 126 Try.underlying126 Try.underlying5 9 Try.underlying9
      have HE := Lib.hid hed
      clear hed hg he hml hlen hnd hown
      go_wp2
      go_ret
      exact ⟨by rw [← HS.out]; unfold TS; rw [HE.out]; rfl, hb⟩
    | cons u us =>
      obtain ⟨v, vals, rfl, hv, hvs⟩ := hNs.uncons
      obtain ⟨m, rfl⟩ : ∃ q, m = q + 1 := ⟨us.length, hml.out⟩
      have hul := u.size_pos
      have hszs : szs (u :: us) = u.size + szs us := by simp [szs]
      have hus : us.length ≤ szs us := by
        have : ∀ l : List Tr, l.length ≤ szs l := fun l => by
          induction l with
          | nil => simp [szs]
          | cons a l ih => have := a.size_pos; simp [szs] at *; omega
        exact this us
      have hmu : m = us.length := by have := hml.out; simpa using this
      obtain ⟨sg, cap, rfl, hg1, hg2, hnc, hcm, hcell, hfz⟩ := own_cells hst (by omega)
      have hvl := hvs.length
      have c1 : wr.cell? ⟨sg, m, none⟩ = some v := by
        rw [hcell _ (by omega), List.reverse_cons, List.getElem?_append_right (by simp; omega)]; simp [hvl, hmu]
      have hpop : wr.ownsRow w.heap.size 99 1 (.slice (some ⟨sg, 0, none⟩) m cap) m vals.reverse := ownsRow_pop (last := [v]) (by simp [hvl, hmu]) (by rw [List.reverse_cons] at hst; exact hst)
      have hmI : (m : Int) ≤ (cap : Int) := by omega
      have hm2 : (m : Int) ≤ 2000000 := by omega
      have hn2 : (n : Int) ≤ 2000000 := by omega
      have HND := Lib.hid hnd; have HL := Lib.hid hlen; have HZ := Lib.hid hszs; have HU := Lib.hid hus; have HMU := Lib.hid hmu
      clear hnd hlen hszs hus hmu hcell hfz hst hvl hNs hml
      cases u with
      | nil =>
        have hv0 : v = .pointer none := hv
        subst hv0
        have hb1 : n + 1 ≤ t.size := by have := HL.out; have := HZ.out; have := HND.out; omega
        go_wp2_with (at_builtin; refine app_new el_u8 rfl _ _ rfl rfl hown [.int .u8 48] 1 rfl rfl ?c1 ?c2 ?c3 hsz hb (Nat.le_refl _) ?_)
        case c1 => intro u hu; simp at hu; rcases hu with rfl; rfl
        case c2 => omega
        case c3 => unfold maxLen; omega
        intro ov' w3 hown' hb' hgr
        have hN' := hvs.kept (Kept.grew hown hgr (by decide))
        have hst' := own_other hown hpop hgr (by decide)
        clear hown hpop hb hvs hv c1
        go_wp2
        go_roundg (szs us)
        case measure => rw [hg.out, HZ.out]; omega
        case rel =>
          refine ⟨us, vals, done ++ [48], n + 1, m, rfl, hb1, by omega, ?_, hN', HMU.out, ?_, hst', hb'⟩
          · show _ = _; rw [he.out]; simp [Tr.enc]
          · simpa [Lib.byteCells] using hown'
      | pair a b =>
        obtain ⟨ng, x, y, rfl, hng, d0, d1, d2, ha, hb9⟩ := hv.cells
        obtain ⟨ng', x', y', hvv, hblk, _, _⟩ := hv
        obtain rfl : ng = ng' := by simpa using hvv
        have hx' : x' = .pointer x := by have h3 := (block_cells hblk).1 0; rw [d0] at h3; simpa using h3.symm
        have hy' : y' = .pointer y := by have h3 := (block_cells hblk).1 1; rw [d1] at h3; simpa using h3.symm
        subst hx'; subst hy'
        have hab : (Tr.pair a b).size = 1 + a.size + b.size := rfl
        have ha1 := a.size_pos
        have hb1' := b.size_pos
        have hb1 : n + 1 ≤ t.size := by have := HL.out; have := HZ.out; have := HND.out; omega
        have hm3 : m + 2 ≤ t.size := by have := HL.out; have := HZ.out; have := HU.out; have := HMU.out; omega
        go_wp2_with (at_builtin; refine app_new el_u8 rfl _ _ rfl rfl hown [.int .u8 49] 1 rfl rfl ?c1 ?c2 ?c3 hsz hb (Nat.le_refl _) ?_)
        case c1 => intro u hu; simp at hu; rcases hu with rfl; rfl
        case c2 => omega
        case c3 => unfold maxLen; omega
        intro ov' w3 hown' hb' hgr
        have hkk : Kept 135 wr w3 := Kept.grew hown hgr (by decide)
        have hblk3 := hkk _ _ hblk
        have hvs3 := hvs.kept hkk
        have ha3 := ha.kept hkk
        have hb3 := hb9.kept hkk
        have hst' := own_other hown hpop hgr (by decide)
        have hsz3 := hb'.size
        have hab' := hab
        have HAB := Lib.hid hab
        clear hab hab' hown hpop hb hvs c1 d0 d1 d2 ha hb9 hblk hkk hgr
        have e0 := (block_cells hblk3).1 0
        have e1 := (block_cells hblk3).1 1
        have HB3 := Lib.hid hblk3; clear hblk3
        go_wp2
        go_region_held3 (fun w' => w'.cell? ⟨ng, 0, none⟩ = some (.pointer x) ∧ w'.cell? ⟨ng, 1, none⟩ = some (.pointer y))
          (first | exact keepS HB3.out (Kept.drew (Kept.refl _ _)) | exact keepS HB3.out (Kept.drew ((Kept.refl _ _).alloc _)) | exact keepS HB3.out (Kept.of_drew (Kept.grew hst'.drew hgr4 (by decide))))
          ((refine step_new el_node (by rfl) _ _ (by rfl) (by rfl) (hst'.drew) [.pointer y, .pointer x] 2 (by rfl) (by rfl) (by decide) (by intro u hu; simp at hu; rcases hu with rfl | rfl <;> rfl) (by omega) (by unfold maxLen; omega) hsz3 hb'.drew (Nat.le_refl _) ?_; intro g4 cap4 w4 hst4 hb4 hgr4))
        all_goals
          have hkk4 : Kept 135 w3 w4 := Kept.of_drew (Kept.grew hst'.drew hgr4 (by decide))
          have hN4 := hvs3.kept hkk4
          have ha4 := ha3.kept hkk4
          have hb44 := hb3.kept hkk4
          have hown4 := own_other hst'.drew hown'.drew hgr4 (by decide)
          clear hvs3 ha3 hb3 hown' hst' e0 e1
          go_wp2
          go_roundg (szs (a :: b :: us))
          case measure => rw [hg.out, HZ.out, HAB.out]; simp [szs]; omega
          case rel =>
            refine ⟨a :: b :: us, .pointer x :: .pointer y :: vals, done ++ [49], n + 1, m + 2, rfl, hb1, hm3, ?_, ⟨ha4, hb44, hN4⟩, ?_, ?_, ?_, hb4⟩
            · show _ = _; rw [he.out]; simp [Tr.enc]
            · show _ = _; rw [HMU.out]; simp
            · simpa [Lib.byteCells] using hown4
            · simpa using hst4

/-- What node.Cons hands back. -/
theorem nodeCons_ok (a b : Tr) (x y : Value) (w : World) (ha : NodeP 135 w a x) (hb : NodeP 135 w b y) (hs : (Tr.pair a b).size ≤ 2000000) :
    Calls Try.prog 134 #[x, y] w fun e w' => ∃ p, e = .returned (.tuple #[.pointer p, .bool true]) ∧ NodeP 135 w' (.pair a b) (.pointer p) ∧ Below w.heap.size w w' := by
  have s1 := nodeSize_any a x w ha
  have s2 := nodeSize_any b y w hb
  have hn := NodeP.new ha hb
  obtain ⟨x, rfl⟩ := ha.ptr
  obtain ⟨y, rfl⟩ := hb.ptr
  obtain ⟨sz, hsz⟩ : ∃ q, (Tr.pair a b).size = q := ⟨_, rfl⟩
  rw [hsz] at hn hs
  have hd : (sz : Int) ≤ 2000000 := by omega
  have ht : ((1 + a.size + b.size : Nat) : Int) = sz := by rw [← hsz]; rfl
  have e1 : (1 : Int) + a.size + b.size = sz := by omega
  have a1 : (a.size : Int) ≤ 2000000 := by omega
  have hdd : decide ((2000000 : Int) < sz) = false := decide_eq_false (by omega)
  clear hsz ht hs
  go_enter Try.func134, Try.ntmps134
  go_wp2_with fail
  refine s1.mono ?_
  rintro e w1 ⟨rfl, rfl⟩
  go_wp2_with fail
  refine s2.mono ?_
  rintro e w1 ⟨rfl, rfl⟩
  clear s1 s2
  go_wp2
  go_ret2
  exact ⟨_, rfl, hn, (Below.refl _ _).alloc (Nat.le_refl _) _⟩
theorem nodeCons_big (a b : Tr) (x y : Value) (w : World) (ha : NodeP 135 w a x) (hb : NodeP 135 w b y) (h1 : a.size ≤ 2000000) (h2 : b.size ≤ 2000000) (hs : 2000000 < (Tr.pair a b).size) :
    Calls Try.prog 134 #[x, y] w fun e w' => e = .returned (.tuple #[.pointer none, .bool false]) ∧ w = w' := by
  have s1 := nodeSize_any a x w ha
  have s2 := nodeSize_any b y w hb
  obtain ⟨x, rfl⟩ := ha.ptr
  obtain ⟨y, rfl⟩ := hb.ptr
  obtain ⟨sz, hsz⟩ : ∃ q, (Tr.pair a b).size = q := ⟨_, rfl⟩
  rw [hsz] at hs
  have ht : ((1 + a.size + b.size : Nat) : Int) = sz := by rw [← hsz]; rfl
  have e1 : (1 : Int) + a.size + b.size = sz := by omega
  have a1 : (a.size : Int) ≤ 2000000 := by omega
  have a2 : (b.size : Int) ≤ 2000000 := by omega
  have hdd : decide ((2000000 : Int) < sz) = true := decide_eq_true (by omega)
  clear hsz ht hs
  go_enter Try.func134, Try.ntmps134
  go_wp2_with fail
  refine s1.mono ?_
  rintro e w1 ⟨rfl, rfl⟩
  go_wp2_with fail
  refine s2.mono ?_
  rintro e w1 ⟨rfl, rfl⟩
  clear s1 s2
  go_wp2
  go_ret2
  exact ⟨rfl, rfl⟩

theorem pf_step_48 {s : ByteArray} {q : Nat} {ts : List Tr} (h : q < s.size) (hc : (s[q].toNat : Int) = 48) (hp : pf (s.data.toList.drop (q + 1)) = some ts) : pf (s.data.toList.drop q) = some (.nil :: ts) := by
  have h' : s[q] = 48 := UInt8.toNat_inj.1 (by have : (48 : UInt8).toNat = 48 := rfl; omega)
  rw [drop_cons s q h, h']; exact pf_48 hp
theorem pf_step_49 {s : ByteArray} {q : Nat} {a b : Tr} {ts : List Tr} (h : q < s.size) (hc : (s[q].toNat : Int) = 49) (hp : pf (s.data.toList.drop (q + 1)) = some (a :: b :: ts)) : pf (s.data.toList.drop q) = some (.pair a b :: ts) := by
  have h' : s[q] = 49 := UInt8.toNat_inj.1 (by have : (49 : UInt8).toNat = 49 := rfl; omega)
  rw [drop_cons s q h, h']; exact pf_49 hp
theorem not_tree_of {s : ByteArray} {q : Nat} (hp : pf (s.data.toList.drop q) = none) : isTree s = false := by
  rw [Bool.eq_false_iff]; intro h
  obtain ⟨t, rfl, _⟩ := isTree_get h
  obtain ⟨us, hu⟩ := pf_drop (TS t).data.toList [t] (by rw [TS_list]; exact pf_one t) q
  rw [hp] at hu; cases hu
theorem pf_step_few {s : ByteArray} {q : Nat} {ts : List Tr} (h : q < s.size) (hc : (s[q].toNat : Int) = 49) (hp : pf (s.data.toList.drop (q + 1)) = some ts) (hl : ts.length < 2) : isTree s = false := by
  have h' : s[q] = 49 := UInt8.toNat_inj.1 (by have : (49 : UInt8).toNat = 49 := rfl; omega)
  exact not_tree_of (q := q) (by rw [drop_cons s q h, h']; exact pf_49_few hp hl)
theorem pf_step_else {s : ByteArray} {q : Nat} (h : q < s.size) (h8 : ¬ (s[q].toNat : Int) = 48) (h9 : ¬ (s[q].toNat : Int) = 49) : isTree s = false :=
  not_tree_of (q := q) (by rw [drop_cons s q h]; exact pf_else (fun e => h8 (by rw [e]; rfl)) (fun e => h9 (by rw [e]; rfl)))
theorem pf_len_tree {s : ByteArray} {ts : List Tr} (hp : pf s.data.toList = some ts) (hs : s.size ≤ 2000000) : isTree s = decide (ts.length = 1) := by
  by_cases h : ts.length = 1
  · rw [decide_eq_true h]
    match ts, h with
    | [t], _ =>
      have e := pf_flat _ _ hp
      have e2 : s = TS t := ba_ext (by rw [TS_list, e]; simp)
      subst e2
      exact isTree_TS t (by rw [TS_size] at hs; exact hs)
  · rw [decide_eq_false h, Bool.eq_false_iff]; intro ht
    obtain ⟨t, rfl, _⟩ := isTree_get ht
    rw [TS_list, pf_one] at hp
    simp only [Option.some.injEq] at hp; subst hp; exact h rfl

/-- What node.Parse hands back. -/
def ParseOut (w : World) (s : ByteArray) (e : Ending) (w' : World) : Prop :=
  ∃ p, e = .returned (.tuple #[.pointer p, .bool (isTree s)]) ∧ Below w.heap.size w w' ∧ (∀ t, s = TS t → isTree s = true → NodeP 135 w' t (.pointer p)) ∧ (isTree s = false → p = none)
theorem ParseOut.bad {w w' : World} {s : ByteArray} {e : Ending} (h : isTree s = false) (he : e = .returned (.tuple #[.pointer none, .bool false])) (hb : Below w.heap.size w w') : ParseOut w s e w' := by
  refine ⟨none, by rw [he, h], hb, ?_, fun _ => rfl⟩
  intro t _ ht; rw [h] at ht; cases ht

set_option maxHeartbeats 4000000 in
theorem parse_any (s : ByteArray) (hs : s.size ≤ 281474976710656) (w : World) :
    Calls Try.prog 113 #[.string s] w (ParseOut w s) := by
  by_cases hbig : 2000000 < s.size
  · have hbad : isTree s = false := by unfold isTree; rw [decide_eq_false (by omega)]; rfl
    have hd : (2000000 : Int) < s.size := by omega
    have HB := Lib.hid hbad
    clear hbig hbad
    go_enter Try.func113, Try.ntmps113
    go_wp2
    go_ret2
    exact ParseOut.bad HB.out rfl (Below.refl _ _)
  · have hs2 : (s.size : Int) ≤ 2000000 := by omega
    have hf : pf (s.data.toList.drop s.size) = some [] := by rw [List.drop_eq_nil_of_le (by simp)]; rfl
    have HF := Lib.hid hf; clear hf hbig
    go_enter Try.func113, Try.ntmps113
    go_wp2
    go_loopg [4, 5] s.size (fun g v i wr => ∃ (j n : Nat) (ts : List Tr) (vals : List Value), j ≤ s.size ∧ g = j ∧ i = .int .i64 ((j : Int) - 1) ∧ Aside (pf (s.data.toList.drop j) = some ts) ∧ Aside (n = ts.length) ∧ Nodes 135 wr ts vals ∧
      wr.ownsRow w.heap.size 99 1 v n vals.reverse ∧ Below w.heap.size w wr)
    case atStart => exact ⟨s.size, 0, [], [], Nat.le_refl _, rfl, rfl, HF.out, rfl, trivial, World.ownsRow_nil _ _ _ _, Below.refl _ _⟩
    case round =>
      obtain ⟨j, n, ts, vals, hj, hg, hi, hp, hnl, hNs, hown, hb⟩ := hrel
      have HG := Lib.hid hg; clear hg
      have hsz := hb.size
      have hlen := pf_length _ _ hp.out
      have hnn : n ≤ s.size - j := by rw [hnl.out]; simpa using hlen
      clear hlen
      obtain ⟨sa, sc, rfl⟩ := own_len hown
      cases j with
      | succ q =>
        rw [show (((q + 1 : Nat) : Int) - 1) = (q : Int) from by omega] at hi
        subst hi
        have hq : q < s.size := by omega
        have hnI : (n : Int) ≤ 2000000 := by omega
        by_cases h8 : (s[q].toNat : Int) = 48
        · have HT : Aside (pf (s.data.toList.drop q) = some (.nil :: ts)) := pf_step_48 hq h8 hp.out
          go_wp2_with (at_builtin; refine app_new el_node rfl _ _ rfl rfl hown [.pointer none] 1 rfl rfl ?c1 ?c2 ?c3 hsz hb (Nat.le_refl _) ?_)
          case c1 => intro u hu; simp at hu; rcases hu with rfl; rfl
          case c2 => omega
          case c3 => unfold maxLen; omega
          intro v' w' hown' hb' hgr
          have hN' := hNs.kept (Kept.grew hown hgr (by decide))
          clear hown hb hNs
          go_wp2
          go_roundg q
          case measure => rw [HG.out]; omega
          case rel => exact ⟨q, n + 1, .nil :: ts, .pointer none :: vals, by omega, rfl, rfl, HT, (by show _ = _; rw [hnl.out]; rfl), ⟨rfl, hN'⟩, by simpa using hown', hb'⟩
        · have b8 : ((s[q].toNat : Int) == 48) = false := beq_eq_false_iff_ne.2 h8
          by_cases h9 : (s[q].toNat : Int) = 49
          · by_cases h2 : 2 ≤ n
            · obtain ⟨n, rfl⟩ : ∃ m, n = m + 2 := ⟨n - 2, by omega⟩
              have hts : ∃ a b r, ts = a :: b :: r := by
                have h3 := hnl.out
                match ts, h3 with
                | a :: b :: r, _ => exact ⟨a, b, r, rfl⟩
                | [], h3 => simp at h3
                | [a], h3 => simp at h3
              obtain ⟨a, b, r, rfl⟩ := hts
              obtain ⟨va, vals, rfl, ha, hNq⟩ := hNs.uncons
              obtain ⟨vb, vals, rfl, hbb, hNr⟩ := hNq.uncons
              clear hNs hNq
              have hnr : n = r.length := by have := hnl.out; simpa using this
              have hvl := hNr.length
              have HT : Aside (pf (s.data.toList.drop q) = some (.pair a b :: r)) := pf_step_49 hq h9 hp.out
              obtain ⟨sg, cap, hsv, hg1, hg2, hnc, hcm, hcell, hfz⟩ := own_cells hown (by omega)
              simp only [Value.slice.injEq] at hsv
              obtain ⟨rfl, -, rfl⟩ := hsv
              have c1 : wr.cell? ⟨sg, n + 1, none⟩ = some va := by
                rw [hcell _ (by omega), List.reverse_cons, List.getElem?_append_right (by simp; omega)]; simp [hvl, hnr]
              have c2 : wr.cell? ⟨sg, n, none⟩ = some vb := by
                rw [hcell _ (by omega), List.reverse_cons, List.reverse_cons, List.append_assoc, List.getElem?_append_right (by simp; omega)]; simp [hvl, hnr]
              have hpop : wr.ownsRow w.heap.size 99 1 (.slice (some ⟨sg, 0, none⟩) n sc) n vals.reverse :=
                ownsRow_pop (last := [vb]) (by simp [hvl, hnr]) (ownsRow_pop (last := [va]) (by simp [hvl, hnr]) (by rw [List.reverse_cons, List.reverse_cons] at hown; exact hown))
              have hzab : (Tr.pair a b).size ≤ 2000000 := by
                have h3 := congrArg List.length (pf_flat _ _ HT.out)
                simp [Tr.enc_length] at h3; omega
              obtain ⟨va, rfl⟩ := ha.ptr
              obtain ⟨vb, rfl⟩ := hbb.ptr
              have e1 : ((n : Int) + 2 - 1).toNat = n + 1 := by omega
              have e3 : ((n : Int) + 1).toNat = n + 1 := by omega
              have o1 : (0 : Int) ≤ (n : Int) + 1 := by omega
              have o2 : (n : Int) + 1 < (n : Int) + 2 := by omega
              have o3 : (n : Int) < (n : Int) + 2 := by omega
              have o8 : (n : Int) ≤ (sc : Int) := by omega
              have d2 : decide ((2 : Int) ≤ (n : Int) + 2) = true := decide_eq_true (by omega)
              have d3 : (2 : Int) ≤ (n : Int) + 2 := by omega
              clear h2
              have hc0 := nodeCons_ok a b _ _ wr.drew (ha.kept (Kept.drew (Kept.refl _ _))) (hbb.kept (Kept.drew (Kept.refl _ _))) hzab
              have HC := Lib.hid hc0
              have HV := Lib.hid hvl; have HR := Lib.hid hnr
              clear hc0 hzab hcell hfz hown hvl hnr ha hbb
              go_wp2
              have W1 : IntKind.i64.wrap (n : Int) = n := IntWalk.i64_in _ (by omega)
              have W2 : IntKind.i64.wrap ((n : Int) + 2 - 1) = (n : Int) + 1 := by rw [IntWalk.i64_in _ (by omega)]; omega
              go_region_held3 (fun w' => w'.cell? ⟨sg, n + 1, none⟩ = some (.pointer va) ∧ w'.cell? ⟨sg, n, none⟩ = some (.pointer vb))
                (first | exact ⟨c1, c2⟩ | exact ⟨(k5.cell (p := ⟨sg, n + 1, none⟩) hg2).trans c1, (k5.cell (p := ⟨sg, n, none⟩) hg2).trans c2⟩)
                ((go_at_call 134; refine HC.out.mono ?_; rintro e w5 ⟨p5, rfl, hp5, k5⟩))
              all_goals
                have k6 : Below wr.heap.size wr w5 := below_of_drew k5
                have hb5 : Below w.heap.size w w5 := hb.trans (k6.mono hsz)
                have hN5 := hNr.kept (Kept.below k6)
                have hpop5 := own_below hpop k6
                have hs5 := hb5.size
                clear hNr hpop c1 c2 k5 k6 hb HC
                go_wp2_with (at_builtin; refine app_new el_node rfl _ _ rfl rfl hpop5 [.pointer p5] 1 rfl rfl ?c1 ?c2 ?c3 hs5 hb5 (Nat.le_refl _) ?_)
                case c1 => intro u hu; simp at hu; rcases hu with rfl; rfl
                case c2 => omega
                case c3 => unfold maxLen; omega
                intro v' w' hown' hb' hgr
                have hkk := Kept.grew (T := 135) hpop5 hgr (by decide)
                have hN' := hN5.kept hkk
                have hp' := hp5.kept hkk
                clear hpop5 hb5 hN5 hp5 hkk
                go_wp2
                go_roundg q
                case measure => rw [HG.out]; omega
                case rel => exact ⟨q, n + 1, .pair a b :: r, .pointer p5 :: vals, by omega, rfl, rfl, HT, (by show _ = _; rw [HR.out]; rfl), ⟨hp', hN'⟩, by simpa using hown', hb'⟩
            · have hbad := Lib.hid (pf_step_few hq h9 hp.out (by rw [← hnl.out]; omega))
              have h2I : ¬ (2 : Int) ≤ n := by omega
              clear h2
              go_wp2
              go_ret2
              exact ParseOut.bad hbad.out rfl hb
          · have hbad := Lib.hid (pf_step_else hq h8 h9)
            have b9 : ((s[q].toNat : Int) == 49) = false := beq_eq_false_iff_ne.2 h9
            go_wp2
            go_ret2
            exact ParseOut.bad hbad.out rfl hb
      | zero =>
        rw [show (((0 : Nat) : Int) - 1) = -1 from rfl] at hi
        subst hi
        have hp' := hp.out
        rw [List.drop_zero] at hp'
        have ht := pf_len_tree hp' (by omega)
        by_cases h1 : n = 1
        · subst h1
          have hts : ∃ t, ts = [t] := by
            have h3 := hnl.out
            match ts, h3 with
            | [t], _ => exact ⟨t, rfl⟩
            | [], h3 => simp at h3
            | a :: b :: r, h3 => simp at h3
          obtain ⟨t, rfl⟩ := hts
          obtain ⟨v, us, rfl, hv, hus⟩ := hNs.uncons
          obtain rfl := hus.nil_iff
          obtain ⟨sg, cap, hsv, hg1, hg2, hnc, hcm, hcell, hfz⟩ := own_cells hown (by omega)
          simp only [Value.slice.injEq] at hsv
          obtain ⟨rfl, -, rfl⟩ := hsv
          obtain ⟨pv, rfl⟩ := hv.ptr
          have c1 : wr.cell? ⟨sg, 0, none⟩ = some (.pointer pv) := by rw [hcell _ (by omega)]; rfl
          have hst : s = TS t := ba_ext (by rw [TS_list, pf_flat _ _ hp']; simp)
          have HS := Lib.hid hst
          have HT := Lib.hid ht
          clear hcell hfz hown ht hp' hp hst
          go_wp2
          go_ret2
          refine ⟨pv, by rw [HT.out]; rfl, hb, fun t' e _ => ?_, fun h => by rw [HT.out] at h; cases h⟩
          rw [HS.out] at e
          rw [← TS_inj e]; exact hv
        · have hbad : isTree s = false := by rw [ht, ← hnl.out]; exact decide_eq_false h1
          have HB := Lib.hid hbad
          have h1b : ((n : Int) != 1) = true := by rw [bne_iff_ne]; omega
          clear hbad ht hp' hp h1
          go_wp2
          go_ret2
          exact ParseOut.bad HB.out rfl hb

end Go.Proofs.Ytaiomcjopgnfpaa

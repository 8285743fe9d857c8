/- Plain: programs that are supplied with a tree. And the walks of spec.Spec, narcissusref05.Spec and narcissusref04.Fits. The walks of the laws of narcissuslaw03: RunAfters. Contracts at a world, for walks that go from call to call. The walks of narcissuslaw05: SpecMakes and SpecSupplies. The walks of narcissuslaw05: SpecSupplies. -/
import Derived.Test.YtieocihlkpipmaaSegP
import Derived.Test.YtieocihlkpipmaaLaw03c
namespace Go.Proofs.Ytieocihlkpipmaa
open Go.RowKit

def specH (d : ByteArray) : List Ins := [⟨0, 1, 0, 0, d⟩, ⟨2, 0, 1, 0, ⟨#[]⟩⟩, ⟨0, 1, 0, 0, ⟨#[48]⟩⟩]
def specL (d : ByteArray) (l : List Ins) : List Ins := specH d ++ l
theorem specL_trees (d : ByteArray) (l : List Ins) : trees (specL d l) = d.size + 1 + trees l := by
  unfold specL; rw [trees_append]; simp [specH, trees]; rfl
theorem specL_length (d : ByteArray) (l : List Ins) : (specL d l).length = l.length + 3 := by simp [specL, specH]
theorem isTree_48 : isTree ⟨#[48]⟩ = true := by decide +kernel
theorem specL_right (d : ByteArray) (l : List Ins) (hd : isTree d = true) (hl : rightAll l = true) : rightAll (specL d l) = true := by
  refine rightAll_append ?_ (fun i x hx => rightAll_at hl hx (by simp [specH]; omega))
  intro i x hx
  match i, hx with
  | 0, hx => simp [specH] at hx; subst hx; unfold rightB; simp [regB, hd]
  | 1, hx => simp [specH] at hx; subst hx; unfold rightB; simp [regB]
  | 2, hx => simp [specH] at hx; subst hx; unfold rightB; simp [regB, isTree_48]
  | i + 3, hx => simp [specH] at hx
theorem specL_valid (d : ByteArray) (l : List Ins) (hd : isTree d = true) (hl : validB l = true) : validB (specL d l) = fitsP (specL d l) := validB_fits (specL_right d l hd (validB_all hl))

theorem goF_shift (l : List Ins) (c : Nat) : ∀ (f n : Nat) (s : St), goF l f (n + c) s = match goF l f n s with
    | .done s' m => .done s' (m + c)
    | .fuel s' m => .fuel s' (m + c)
    | .big => .big := by
  intro f
  induction f with
  | zero =>
    intro n s
    by_cases hp : s.pos = l.length
    · rw [goF_done hp, goF_done hp]
    · rw [goF_zero hp, goF_zero hp]
  | succ f ih =>
    intro n s
    by_cases hp : s.pos = l.length
    · rw [goF_done hp, goF_done hp]
    · cases hs : stepP l s with
      | none => rw [goF_big hp hs, goF_big hp hs]
      | some s1 => rw [goF_step hp hs, goF_step hp hs, show n + c + 1 = n + 1 + c by omega]; exact ih _ _
theorem stepX_set {x : Ins} {s : St} (h : x.op = 0) : stepX x s = some ⟨s.pos + 1, setR s.regs x.a (toTr x.tree)⟩ := by unfold stepX; rw [if_pos h]
theorem toTr_48 : toTr ⟨#[48]⟩ = .nil := toTr_TS .nil (by decide)
theorem spec_1 (d x : Tr) (hd : d.size ≤ 2000000) (l : List Ins) : stepP (specL (TS d) l) (startS x) = some ⟨1, x :: d :: List.replicate 30 .nil⟩ := by
  have h := stepX_set (x := ⟨0, 1, 0, 0, TS d⟩) (s := startS x) rfl
  rw [toTr_TS d hd] at h
  exact h
theorem spec_2 (d x : Tr) (l : List Ins) (h : (Tr.pair d x).size ≤ 2000000) : stepP (specL (TS d) l) ⟨1, x :: d :: List.replicate 30 .nil⟩ = some ⟨2, .pair d x :: d :: List.replicate 30 .nil⟩ :=
  stepX_cons (x := ⟨2, 0, 1, 0, ⟨#[]⟩⟩) (s := ⟨1, x :: d :: List.replicate 30 .nil⟩) rfl h
theorem spec_2big (d x : Tr) (l : List Ins) (h : 2000000 < (Tr.pair d x).size) : stepP (specL (TS d) l) ⟨1, x :: d :: List.replicate 30 .nil⟩ = none :=
  stepX_big (x := ⟨2, 0, 1, 0, ⟨#[]⟩⟩) (s := ⟨1, x :: d :: List.replicate 30 .nil⟩) rfl h
theorem spec_3 (d y : Tr) (l : List Ins) : stepP (specL (TS d) l) ⟨2, y :: d :: List.replicate 30 .nil⟩ = some ⟨3, (startS y).regs⟩ := by
  have h := stepX_set (x := ⟨0, 1, 0, 0, ⟨#[48]⟩⟩) (s := ⟨2, y :: d :: List.replicate 30 .nil⟩) rfl
  rw [toTr_48] at h
  exact h
theorem spec_big (d x : Tr) (hd : d.size ≤ 2000000) (l : List Ins) (h : 2000000 < (Tr.pair d x).size) (f : Nat) : goF (specL (TS d) l) (f + 3) 0 (startS x) = .big := by
  have hn : (specL (TS d) l).length = l.length + 3 := specL_length _ _
  rw [show f + 3 = (f + 2) + 1 by omega, goF_step (by show 0 ≠ _; omega) (spec_1 d x hd l), show f + 2 = (f + 1) + 1 by omega, goF_big (by show 1 ≠ _; omega) (spec_2big d x l h)]
theorem spec_run (d x : Tr) (hd : d.size ≤ 2000000) (l : List Ins) (hl : rightAll l = true) (h : (Tr.pair d x).size ≤ 2000000) (f : Nat) :
    (goF (specL (TS d) l) (f + 3) 0 (startS x)).run = match goF l f 0 (startS (.pair d x)) with
      | .done s m => (TS (getR s.regs 0), m + 3, 0)
      | .fuel _ _ => (⟨#[]⟩, 0, 7)
      | .big => (⟨#[]⟩, 0, 3) := by
  have hn : (specL (TS d) l).length = l.length + 3 := specL_length _ _
  rw [show f + 3 = (f + 2) + 1 by omega, goF_step (by show 0 ≠ _; omega) (spec_1 d x hd l), show f + 2 = (f + 1) + 1 by omega, goF_step (by show 1 ≠ _; omega) (spec_2 d x l h), goF_step (by show 2 ≠ _; omega) (spec_3 d _ l)]
  have hs : Seg (specL (TS d) l) 3 l := Seg.right (specH (TS d)) l
  obtain ⟨r1, r2, r3⟩ := hs.run hl (by omega) f 3 (startS (.pair d x)) (Good.start _ _ h)
  have hsh := goF_shift l 3 f 0 (startS (.pair d x))
  cases hR : goF l f 0 (startS (.pair d x)) with
  | done s m =>
    rw [hR] at hsh
    obtain ⟨_, _, e⟩ := r1 s (m + 3) hsh
    have : (goF (specL (TS d) l) f 3 ⟨3, (startS (.pair d x)).regs⟩) = .done ⟨3 + l.length, s.regs⟩ (m + 3) := by
      refine e.trans (goF_done ?_)
      show 3 + l.length = _
      omega
    show (goF (specL (TS d) l) f 3 ⟨3, (startS (.pair d x)).regs⟩).run = _
    rw [this]; rfl
  | fuel s m =>
    rw [hR] at hsh
    show (goF (specL (TS d) l) f 3 ⟨3, (startS (.pair d x)).regs⟩).run = _
    have := r2 s (m + 3) hsh
    exact (congrArg Res.run this).trans rfl
  | big =>
    rw [hR] at hsh
    exact (congrArg Res.run (r3 hsh)).trans rfl

/-! ### Walks -/
theorem specH_wf (d : ByteArray) (hd : d.size ≤ 140737488355328) : ∀ x ∈ specH d, x.wf := by
  intro x hx
  simp [specH] at hx
  rcases hx with rfl | rfl | rfl
  · exact wf_lit _ _ _ _ _ (by unfold i64; decide) (by unfold i64; decide) (by unfold i64; decide) (by unfold i64; decide) hd
  · exact wf_lit _ _ _ _ _ (by unfold i64; decide) (by unfold i64; decide) (by unfold i64; decide) (by unfold i64; decide) (by decide)
  · exact wf_lit _ _ _ _ _ (by unfold i64; decide) (by unfold i64; decide) (by unfold i64; decide) (by unfold i64; decide) (by decide)
theorem specH_own (w : World) (d : ByteArray) : (w.alloc (.cells #[.int .i64 0, .int .i64 1, .int .i64 0, .int .i64 0, .string d, .int .i64 2, .int .i64 0, .int .i64 1, .int .i64 0, .string ⟨#[]⟩, .int .i64 0, .int .i64 1, .int .i64 0, .int .i64 0, .string ⟨#[48]⟩] 73)).ownsRow w.heap.size 73 5 (.slice (some ⟨w.heap.size, 0, none⟩) 3 3) 3 (inscells (specH d)) :=
  World.ownsRow_lit w (inscells (specH d)).toArray 3 (Nat.le_refl _) (by decide) rfl

/-- What Spec hands back where it may. -/
def SpecOk (w : World) (d : ByteArray) (l : List Ins) (e : Ending) (w' : World) : Prop := ∃ v', e = .returned (.tuple #[v', .int .i64 0]) ∧ InsRow w' w'.heap.size v' (specL d l) ∧ Below w.heap.size w w'
def SpecBad (w : World) (er : Int) (e : Ending) (w' : World) : Prop := e = .returned (.tuple #[.slice none 0 0, .int .i64 er]) ∧ Below w.heap.size w w'

set_option maxHeartbeats 2000000 in
theorem spec_any (v : Value) (l : List Ins) (d : ByteArray) (hds : d.size ≤ 140737488355328) (w : World) (hl : InsRow w w.heap.size v l) (hv : validB l = true) (hd : isTree d = true) :
    Calls Try.prog 30 #[v, .string d] w (fun e w' => if validB (specL d l) = true then SpecOk w d l e w' else SpecBad w 3 e w') := by
  have kv := codeValidP_at v l w hl _ hv
  have kt := treeValid_at d hds _ hd
  have hwf : ∀ x ∈ specL d l, x.wf := fun x hx => by rcases List.mem_append.1 hx with h | h; exact specH_wf d hds x h; exact hl.1 x h
  have hn4 := validB_len hv
  have hcells : inscells (specL d l) = inscells (specH d) ++ inscells l := by simp [specL, inscells]
  have hlen := specL_length d l
  have HC := Lib.hid hcells
  have HWF := Lib.hid hwf
  have HLEN := Lib.hid hlen
  have hl0 := hl
  obtain ⟨n, hn'⟩ : ∃ n, l.length = n := ⟨_, rfl⟩
  obtain ⟨ao, cap, rfl⟩ := hl.len
  rw [hn'] at hl0 kv hn4 ⊢
  have HN := Lib.hid hn'
  have hone := inscells_one l
  have HONE := Lib.hid hone
  clear hv hd hwf hcells hlen hl hn' hone
  obtain ⟨bb, hbb⟩ : ∃ b, validB (specL d l) = b := ⟨_, rfl⟩
  rw [hbb]
  have HBB := Lib.hid hbb
  clear hbb
  go_enter Try.func30, Try.ntmps30
  go_wp2_with fail
  refine kv.mono ?_
  rintro e w1 ⟨rfl, k1⟩
  go_wp2_with fail
  refine (kt _).mono ?_
  rintro e w2 ⟨rfl, k2⟩
  have hb2 := k1.trans (k2.mono k1.size)
  have hl2 := (hl0.below hb2).mono hb2.size
  have hown := specH_own w2 d
  have hb3 := hb2.alloc hb2.size (.cells #[.int .i64 0, .int .i64 1, .int .i64 0, .int .i64 0, .string d, .int .i64 2, .int .i64 0, .int .i64 1, .int .i64 0, .string ⟨#[]⟩, .int .i64 0, .int .i64 1, .int .i64 0, .int .i64 0, .string ⟨#[48]⟩] 73)
  have hs2 : Src (w2.alloc (.cells #[.int .i64 0, .int .i64 1, .int .i64 0, .int .i64 0, .string d, .int .i64 2, .int .i64 0, .int .i64 1, .int .i64 0, .string ⟨#[]⟩, .int .i64 0, .int .i64 1, .int .i64 0, .int .i64 0, .string ⟨#[48]⟩] 73)) (.slice ao n cap) n 5 (inscells l) := by
    have := (hl0.below hb3).src
    rwa [HN.out] at this
  have hsz := hb2.size
  clear kv kt k1 k2 hb2 hl2 hl0
  go_wp2_with (at_builtin; refine app_src el_ins (vx := .slice ao n cap) rfl _ _ rfl rfl hown rfl hs2 HONE.out ?c2 ?c3 (by simp) hb3 hsz ?_)
  case c2 => omega
  case c3 => unfold maxLen; omega
  intro v' w3 hown3 hb4 hg
  have hrow : InsRow w3 w3.heap.size v' (specL d l) := InsRow.of_own (n := 3 + n) (by rw [HC.out]; exact hown3) HWF.out (by rw [HLEN.out, HN.out]; omega)
  have kv2 := codeValidP_at v' _ w3 hrow _ HBB.out
  have HROW := Lib.hid hrow
  obtain ⟨a2, c2, rfl⟩ := own_len hown3
  clear hown hs2 hb3 hown3 hg hrow
  cases bb with
  | true =>
    go_wp2_with fail
    refine kv2.mono ?_
    rintro e w4 ⟨rfl, k4⟩
    clear kv2
    go_wp2
    go_ret2
    exact ⟨_, rfl, (HROW.out.below k4).mono k4.size, hb4.trans (k4.mono hb4.size)⟩
  | false =>
    go_wp2_with fail
    refine kv2.mono ?_
    rintro e w4 ⟨rfl, k4⟩
    clear kv2
    go_wp2
    go_ret2
    exact ⟨rfl, hb4.trans (k4.mono hb4.size)⟩

end Go.Proofs.Ytieocihlkpipmaa

namespace Go.Proofs.Ytieocihlkpipmaa
open Go.RowKit

set_option maxHeartbeats 1000000 in
theorem none_any (n : Int) (u : Value) (L : List ByteArray) (b : Bool) (hb : ((n == 0) && ((L.length : Int) == 0)) = b) (w : World) (hu : StrRow w w.heap.size u L) :
    Calls Try.prog 39 #[.agg #[.int .i64 n, u]] w fun e w' => e = .returned (.bool b) ∧ Below w.heap.size w w' := by
  obtain ⟨a, c, rfl⟩ := hu.len
  obtain ⟨m, hm⟩ : ∃ m, L.length = m := ⟨_, rfl⟩
  rw [hm] at hb ⊢
  have HB := Lib.hid hb
  clear hu hm hb
  have hb1 := (Below.refl w.heap.size w).alloc (Nat.le_refl _) (.cells #[.int .i64 n, .slice a m c] 53)
  by_cases h0 : n = 0
  · subst h0
    go_enter Try.func39, Try.ntmps39
    go_wp2
    go_ret
    exact ⟨by rw [← HB.out]; simp, hb1⟩
  · have hn : (n == 0) = false := by rw [beq_eq_false_iff_ne]; exact h0
    have hbf : b = false := by rw [← HB.out, hn]; rfl
    clear h0
    go_enter Try.func39, Try.ntmps39
    go_wp2
    go_ret
    exact ⟨by rw [hbf]; rfl, hb1⟩
theorem none_ct {w : World} {n : Int} {u : Value} {L : List ByteArray} (b : Bool) (hb : ((n == 0) && ((L.length : Int) == 0)) = b) (hu : StrRow w w.heap.size u L) : Ct w 39 #[.agg #[.int .i64 n, u]] (.bool b) :=
  Ct.of fun w' hw => none_any n u L b hb w' ((hu.below hw).mono hw.size)
/-- After, relative to a world. -/
def AftCt (w : World) (v : Value) (s : ByteArray) (k : Int) (n : Int) (L : List ByteArray) (LL : Nat) (m : Nat) (er : Int) : Prop :=
  ∀ w', Below w.heap.size w w' → Calls Try.prog 38 #[v, .string s, .int .i64 k] w' fun e w'' => ∃ ua uc, e = .returned (.tuple #[.agg #[.int .i64 n, .slice ua LL uc], .int .i64 m, .int .i64 er]) ∧ Hid (StrRow w'' w''.heap.size (.slice ua LL uc) L) ∧ Below w.heap.size w w''
theorem aft_ct {w : World} {v : Value} {s : ByteArray} {k n : Int} {L : List ByteArray} {LL m : Nat} {er : Int} (hL : L.length = LL) (h : ∀ w', Below w.heap.size w w' → Calls Try.prog 38 #[v, .string s, .int .i64 k] w' (AftOut w' n L m er)) : AftCt w v s k n L LL m er := fun w' hb =>
  (h w' hb).mono fun e w'' ⟨u, h1, h2, h3⟩ => by
    obtain ⟨ua, uc, rfl⟩ := h2.len
    rw [hL] at h1 h2
    exact ⟨ua, uc, h1, h2, hb.trans (h3.mono hb.size)⟩
theorem aft_form_ct {w : World} {v : Value} {l : List Ins} (hl : InsRow w w.heap.size v l) (s : ByteArray) (hs : s.size ≤ 140737488355328) (k : Int) (h : validB l = false ∨ isTree s = false) : AftCt w v s k 0 [] 0 0 1 :=
  aft_ct rfl fun w' hb => after_bad v l s k w' 1 ((hl.below hb).mono hb.size) (.inl rfl) (fun w2 h2 => begin_form v l s k w2 h2 hs h)
theorem aft_arg_ct {w : World} {v : Value} {l : List Ins} (hl : InsRow w w.heap.size v l) (s : ByteArray) (hs : s.size ≤ 140737488355328) (k : Int) (hv : validB l = true) (ht : isTree s = true) (hk : k < 0 ∨ 10000000 < k) : AftCt w v s k 0 [] 0 0 2 :=
  aft_ct rfl fun w' hb => after_bad v l s k w' 2 ((hl.below hb).mono hb.size) (.inr rfl) (fun w2 h2 => begin_arg v l s k w2 h2 hs hv ht hk)
theorem aft_ok_ct {w : World} {v : Value} {l : List Ins} (hl : InsRow w w.heap.size v l) (hv : validB l = true) (t : Tr) (ht : t.size ≤ 2000000) (K : Nat) (hK : K ≤ 10000000) (n : Int) (L : List ByteArray) (LL : Nat) (hL : L.length = LL) (m : Nat) (er : Int) (hr : (goF l K 0 (startS t)).after = (n, L, m, er)) : AftCt w v (TS t) K n L LL m er :=
  aft_ct hL fun w' hb => after_ok v l t ht K hK w' ((hl.below hb).mono hb.size) hv n L m er hr
theorem raft_ct {w w' : World} {gm : Nat} {l : List Ins} {pv tv : Value} {t : Tr} {q : Option Addr} {K : Nat} (hK : K ≤ 100000000) (hm : RMachP w' w'.heap.size gm l pv tv) (hx : NodeP 114 w' t (.pointer q)) (ht : t.size ≤ 2000000) (hv : validB l = true) (R : Res) (hr : goF l K 0 (startS t) = R) (_ : Below w.heap.size w w') :
    Calls Try.prog 40 #[.pointer (some ⟨gm, 0, none⟩), .pointer q, .int .i64 K] w' (RAft w' R) := by
  rw [← hr]; exact rafter_any w' gm l pv tv t _ K hK hm hx ht (validB_all hv) (validB_len hv)

theorem sameB_self (l : List ByteArray) : sameB l l = true := by unfold sameB; exact decide_eq_true rfl

set_option maxRecDepth 100000 in
set_option maxHeartbeats 4000000 in
theorem law_RunAfters {w : World} (v : Value) (l : List Ins) (hl : InsRow w w.heap.size v l) (s : ByteArray) (hs : s.size ≤ 140737488355328) (fuel : Int) (hf : -9223372036854775808 ≤ fuel ∧ fuel ≤ 9223372036854775807) :
    Calls Try.prog 8 #[v, .string s, .int .i64 fuel] w fun e w' => e = .returned (.bool true) ∧ Below w.heap.size w w' := by
  have kt := twin_any v l w hl
  go_enter Try.func8, Try.ntmps8
  go_wp2_with fail
  refine kt.mono ?_
  rintro e wB ⟨v', rfl, hv', hb1⟩
  have HQ := Lib.hid hb1
  have hl1 := (hl.below hb1).mono hb1.size
  clear kt hl hb1
  by_cases hgood : validB l = true ∧ isTree s = true
  · obtain ⟨hv, htr⟩ := hgood
    by_cases hf1 : fuel < 0 ∨ 10000000 < fuel
    · have cA := aft_arg_ct hl1 s hs fuel hv htr hf1
      go_wp2_with fail
      refine (cA _ (Below.refl _ _)).mono ?_
      rintro e wA ⟨ua, uc, rfl, hu, hb2⟩
      obtain ⟨W, hW⟩ : ∃ W, wA.alloc (.cells #[.int .i64 0, (.slice ua 0 uc)] 53) = W := ⟨_, rfl⟩
      have hq : Below wA.heap.size wA W := by rw [← hW]; exact (Below.refl _ _).alloc (Nat.le_refl _) _
      have d0 : W.cell? ⟨wA.heap.size, 0, none⟩ = some (.int .i64 0) := by rw [← hW]; exact (block_cells (heap_alloc_new wA _)).1 0
      have d1 : W.cell? ⟨wA.heap.size, 1, none⟩ = some (.slice ua 0 uc) := by rw [← hW]; exact (block_cells (heap_alloc_new wA _)).1 1
      have hlt : wA.heap.size < W.heap.size := by rw [← hW]; simp
      have hrow := (hu.out.below hq).mono hq.size
      have hbW := hb2.trans (hq.mono hb2.size)
      have QBW := Lib.hid hbW
      have D0 := Lib.hid d0
      have D1 := Lib.hid d1
      have hlW := (hl1.below hbW).mono hbW.size
      have cSame := same_ct hlW ((hv'.below hbW).mono hbW.size) true (sameP_self l)
      have cAw := awake03_ct W
      have cN := none_ct (n := 0) (L := []) true (by rfl) hrow
      have cV := cvalid_ct hlW _ hv
      have cT := tvalid_ct (w := W) s hs _ htr
      clear hq hb2 hu d0 d1 hbW hlW hl1 hv'
      clear hv htr
      rcases hf1 with hf1 | hf1
      all_goals
        go_wp2_with fail
        refine (cSame _ (Below.refl _ _)).mono ?_
        rintro e w1 ⟨rfl, hb1⟩
        go_wp2_with fail
        refine (cV _ hb1).mono ?_
        rintro e w2 ⟨rfl, hb2⟩
        clear hb1
        go_wp2_with fail
        refine (cT _ hb2).mono ?_
        rintro e w3 ⟨rfl, hb3⟩
        clear hb2
        have e0 := (hb3.cell (p := ⟨wA.heap.size, 0, none⟩) hlt).trans D0.out
        have e1 := (hb3.cell (p := ⟨wA.heap.size, 1, none⟩) hlt).trans D1.out
        go_wp2_with fail
        refine (cN _ hb3).mono ?_
        rintro e w4 ⟨rfl, hb4⟩
        clear hb3
        go_wp2_with fail
        refine (cAw _ hb4).mono ?_
        rintro e w5 ⟨rfl, hb5⟩
        clear hb4
        go_wp2
        go_ret
        exact ⟨rfl, HQ.out.trans ((QBW.out.trans (hb5.mono QBW.out.size)).mono HQ.out.size)⟩
    · obtain ⟨t, rfl, ht⟩ := isTree_get htr
      obtain ⟨K, rfl⟩ := Int.eq_ofNat_of_zero_le (by omega : 0 ≤ fuel)
      have hK : K ≤ 10000000 := by omega
      have hKI : (K : Int) ≤ 10000000 := by omega
      have hgd := goF_good (validB_all hv) (f := K) (n := 0) (Good.start l.length t ht)
      cases hR : goF l K 0 (startS t) with
      | big =>
        have cA := aft_ok_ct hl1 hv t ht K hK 0 [] 0 rfl 0 3 (by rw [hR]; rfl)
        go_wp2_with fail
        refine (cA _ (Below.refl _ _)).mono ?_
        rintro e wA ⟨ua, uc, rfl, hu, hb2⟩
        obtain ⟨W, hW⟩ : ∃ W, wA.alloc (.cells #[.int .i64 0, (.slice ua 0 uc)] 53) = W := ⟨_, rfl⟩
        have hq : Below wA.heap.size wA W := by rw [← hW]; exact (Below.refl _ _).alloc (Nat.le_refl _) _
        have d0 : W.cell? ⟨wA.heap.size, 0, none⟩ = some (.int .i64 0) := by rw [← hW]; exact (block_cells (heap_alloc_new wA _)).1 0
        have d1 : W.cell? ⟨wA.heap.size, 1, none⟩ = some (.slice ua 0 uc) := by rw [← hW]; exact (block_cells (heap_alloc_new wA _)).1 1
        have hlt : wA.heap.size < W.heap.size := by rw [← hW]; simp
        have hrow := (hu.out.below hq).mono hq.size
        have hbW := hb2.trans (hq.mono hb2.size)
        have QBW := Lib.hid hbW
        have D0 := Lib.hid d0
        have D1 := Lib.hid d1
        have hlW := (hl1.below hbW).mono hbW.size
        have cSame := same_ct hlW ((hv'.below hbW).mono hbW.size) true (sameP_self l)
        have cAw := awake03_ct W
        have cN := none_ct (n := 0) (L := []) true (by rfl) hrow
        have cV := cvalid_ct hlW _ hv
        have cT := tvalid_ct (w := W) (TS t) hs _ htr
        have cLoad := load_ct hlW hv
        have cRead := read_ct (w := W) t ht
        clear hq hb2 hu d0 d1 hbW hlW hl1 hv'
        have HR := Lib.hid hR
        have HV := Lib.hid hv
        clear htr hf1 hgd hR hv
        generalize TS t = S at *
        go_wp2_with fail
        refine (cSame _ (Below.refl _ _)).mono ?_
        rintro e w1 ⟨rfl, hb1⟩
        go_wp2_with fail
        refine (cV _ hb1).mono ?_
        rintro e w2 ⟨rfl, hb2⟩
        clear hb1
        go_wp2_with fail
        refine (cT _ hb2).mono ?_
        rintro e w3 ⟨rfl, hb3⟩
        clear hb2
        go_wp2_with fail
        refine (cLoad _ hb3).mono ?_
        rintro e w4 ⟨gm, tv, rfl, hm, hb4⟩
        clear hb3
        go_wp2_with fail
        refine (cRead _ hb4).mono ?_
        rintro e w5 ⟨q, rfl, hq, hb5⟩
        clear hb4
        have hm2 := hm.out.below hq.out.2
        have kr := fun hb => raft_ct (w := W) (by omega) hm2 hq.out.1 ht HV.out _ HR.out hb
        clear hm2
        go_wp2_with fail
        refine (kr hb5).mono ?_
        rintro e w6 ⟨pz, nz, rfl, hq6⟩
        have hb6 := hb5.trans (hq6.mono hb5.size)
        clear hq6
        have e0 := (hb6.cell (p := ⟨wA.heap.size, 0, none⟩) hlt).trans D0.out
        have e1 := (hb6.cell (p := ⟨wA.heap.size, 1, none⟩) hlt).trans D1.out
        go_wp2_with fail
        refine (cN _ hb6).mono ?_
        rintro e w7 ⟨rfl, hb7⟩
        clear hb6
        go_wp2_with fail
        refine (cAw _ hb7).mono ?_
        rintro e w8 ⟨rfl, hb8⟩
        clear hb7
        go_wp2
        go_ret
        exact ⟨rfl, HQ.out.trans ((QBW.out.trans (hb8.mono QBW.out.size)).mono HQ.out.size)⟩
      | fuel s' n =>
        have hgs := hgd.2 s' n hR
        have cA := aft_ok_ct hl1 hv t ht K hK s'.pos (s'.regs.map TS) 32 (by simp [hgs.2.1]) n 0 (by rw [hR]; rfl)
        go_wp2_with fail
        refine (cA _ (Below.refl _ _)).mono ?_
        rintro e wA ⟨ua, uc, rfl, hu, hb2⟩
        obtain ⟨W, hW⟩ : ∃ W, wA.alloc (.cells #[.int .i64 s'.pos, (.slice ua 32 uc)] 53) = W := ⟨_, rfl⟩
        have hq : Below wA.heap.size wA W := by rw [← hW]; exact (Below.refl _ _).alloc (Nat.le_refl _) _
        have d0 : W.cell? ⟨wA.heap.size, 0, none⟩ = some (.int .i64 s'.pos) := by rw [← hW]; exact (block_cells (heap_alloc_new wA _)).1 0
        have d1 : W.cell? ⟨wA.heap.size, 1, none⟩ = some (.slice ua 32 uc) := by rw [← hW]; exact (block_cells (heap_alloc_new wA _)).1 1
        have hlt : wA.heap.size < W.heap.size := by rw [← hW]; simp
        have hrow := (hu.out.below hq).mono hq.size
        have hbW := hb2.trans (hq.mono hb2.size)
        have QBW := Lib.hid hbW
        have D0 := Lib.hid d0
        have D1 := Lib.hid d1
        have hlW := (hl1.below hbW).mono hbW.size
        have cSame := same_ct hlW ((hv'.below hbW).mono hbW.size) true (sameP_self l)
        have cAw := awake03_ct W
        have cV := cvalid_ct hlW _ hv
        have cT := tvalid_ct (w := W) (TS t) hs _ htr
        have cLoad := load_ct hlW hv
        have cRead := read_ct (w := W) t ht
        clear hq hb2 hu d0 d1 hbW hlW hl1 hv'
        clear htr hf1 hgd
        generalize TS t = S at *
        go_wp2_with fail
        refine (cSame _ (Below.refl _ _)).mono ?_
        rintro e w1 ⟨rfl, hb1⟩
        go_wp2_with fail
        refine (cV _ hb1).mono ?_
        rintro e w2 ⟨rfl, hb2⟩
        clear hb1
        go_wp2_with fail
        refine (cT _ hb2).mono ?_
        rintro e w3 ⟨rfl, hb3⟩
        clear hb2
        go_wp2_with fail
        refine (cLoad _ hb3).mono ?_
        rintro e w4 ⟨gm, tv, rfl, hm, hb4⟩
        clear hb3
        go_wp2_with fail
        refine (cRead _ hb4).mono ?_
        rintro e w5 ⟨q, rfl, hq, hb5⟩
        clear hb4
        have hm2 := hm.out.below hq.out.2
        have kr := fun hb => raft_ct (w := W) (by omega) hm2 hq.out.1 ht hv _ hR hb
        clear hm2
        go_wp2_with fail
        refine (kr hb5).mono ?_
        rintro e w6 ⟨gs, gr, cp, ps, rfl, hs, hgr, hb6'⟩
        have hb6 := hb5.trans (hb6'.mono hb5.size)
        have e0 := (hb6.cell (p := ⟨wA.heap.size, 0, none⟩) hlt).trans D0.out
        have e1 := (hb6.cell (p := ⟨wA.heap.size, 1, none⟩) hlt).trans D1.out
        have hlt6 : wA.heap.size < w6.heap.size := by have := hb6.size; omega
        have keep : ∀ w', Below w6.heap.size w6 w' → w'.cell? ⟨wA.heap.size, 0, none⟩ = some (.int .i64 s'.pos) ∧ w'.cell? ⟨wA.heap.size, 1, none⟩ = some (.slice ua 32 uc) := fun w' hb => ⟨(hb.cell (p := ⟨wA.heap.size, 0, none⟩) hlt6).trans e0, (hb.cell (p := ⟨wA.heap.size, 1, none⟩) hlt6).trans e1⟩
        have kT : ∀ w', Below w6.heap.size w6 w' → Calls Try.prog 42 #[.pointer (some ⟨gs, 0, none⟩)] w' fun e w'' => ∃ x, e = .returned (.agg #[.int .i64 s'.pos, x]) ∧ Hid (StrRow w'' w''.heap.size x (s'.regs.map TS)) ∧ Below w6.heap.size w6 w'' := fun w' hb => by
          refine (rtext_any w' _ gs gr cp l.length s' ps (by rw [hgs.2.1]; exact hs.kept hb) hgs).mono ?_
          rintro e w'' ⟨x, h1, h2, h3⟩
          exact ⟨x, h1, h2, hb.trans (h3.mono hb.size)⟩
        have kS : ∀ w' x, StrRow w' w'.heap.size x (s'.regs.map TS) → Below w6.heap.size w6 w' → Calls Try.prog 41 #[.agg #[.int .i64 s'.pos, .slice ua 32 uc], .agg #[.int .i64 s'.pos, x]] w' fun e w'' => e = .returned (.bool true) ∧ Below w6.heap.size w6 w'' := fun w' x hx hb => by
          have hb' := hb6.trans (hb.mono hb6.size)
          refine (sameState_any _ _ _ x _ _ w' ((hrow.below hb').mono hb'.size) hx).mono ?_
          rintro e w'' ⟨rfl, h2⟩
          exact ⟨by simp [sameS, sameB_self], hb.trans (h2.mono hb.size)⟩
        have kA : ∀ w', Below w6.heap.size w6 w' → Calls Try.prog 25 #[] w' fun e w'' => e = .returned (.bool true) ∧ Below w6.heap.size w6 w'' := awake03_ct w6
        have HB6 := Lib.hid hb6
        have HKEEP := Lib.hid keep
        have HKT := Lib.hid kT
        have HKS := Lib.hid kS
        have HKA := Lib.hid kA
        clear kr hb5 hb6 hb6' keep kT kS kA hs hgr hrow
        go_wp2
        go_region_held3 (fun w' => w'.cell? ⟨wA.heap.size, 0, none⟩ = some (.int .i64 s'.pos) ∧ w'.cell? ⟨wA.heap.size, 1, none⟩ = some (.slice ua 32 uc))
          (with_reducible (first | exact HKEEP.out _ hbA | exact HKEEP.out _ hbS | exact HKEEP.out _ hbT | exact HKEEP.out _ (Below.refl _ _) | exact HKEEP.out _ (Below.refl _ _).drew))
          ((first
            | ((with_reducible refine (HKT.out _ (by first | exact Below.refl _ _ | exact (Below.refl _ _).drew)).mono ?_); rintro e wT ⟨x, rfl, hx, hbT⟩)
            | ((with_reducible refine (HKS.out _ _ hx.out hbT).mono ?_); rintro e wS ⟨rfl, hbS⟩)
            | ((with_reducible refine (HKA.out _ hbS).mono ?_); rintro e wZ ⟨rfl, hbA⟩)))
        go_wp2
        go_ret
        have hb7 := HB6.out.trans (hbA.mono HB6.out.size)
        exact ⟨rfl, HQ.out.trans ((QBW.out.trans (hb7.mono QBW.out.size)).mono HQ.out.size)⟩
      | done s' n =>
        have hgs := hgd.1 s' n hR
        have cA := aft_ok_ct hl1 hv t ht K hK s'.pos (s'.regs.map TS) 32 (by simp [hgs.2.1]) n 0 (by rw [hR]; rfl)
        go_wp2_with fail
        refine (cA _ (Below.refl _ _)).mono ?_
        rintro e wA ⟨ua, uc, rfl, hu, hb2⟩
        obtain ⟨W, hW⟩ : ∃ W, wA.alloc (.cells #[.int .i64 s'.pos, (.slice ua 32 uc)] 53) = W := ⟨_, rfl⟩
        have hq : Below wA.heap.size wA W := by rw [← hW]; exact (Below.refl _ _).alloc (Nat.le_refl _) _
        have d0 : W.cell? ⟨wA.heap.size, 0, none⟩ = some (.int .i64 s'.pos) := by rw [← hW]; exact (block_cells (heap_alloc_new wA _)).1 0
        have d1 : W.cell? ⟨wA.heap.size, 1, none⟩ = some (.slice ua 32 uc) := by rw [← hW]; exact (block_cells (heap_alloc_new wA _)).1 1
        have hlt : wA.heap.size < W.heap.size := by rw [← hW]; simp
        have hrow := (hu.out.below hq).mono hq.size
        have hbW := hb2.trans (hq.mono hb2.size)
        have QBW := Lib.hid hbW
        have D0 := Lib.hid d0
        have D1 := Lib.hid d1
        have hlW := (hl1.below hbW).mono hbW.size
        have cSame := same_ct hlW ((hv'.below hbW).mono hbW.size) true (sameP_self l)
        have cAw := awake03_ct W
        have cV := cvalid_ct hlW _ hv
        have cT := tvalid_ct (w := W) (TS t) hs _ htr
        have cLoad := load_ct hlW hv
        have cRead := read_ct (w := W) t ht
        clear hq hb2 hu d0 d1 hbW hlW hl1 hv'
        clear htr hf1 hgd
        generalize TS t = S at *
        go_wp2_with fail
        refine (cSame _ (Below.refl _ _)).mono ?_
        rintro e w1 ⟨rfl, hb1⟩
        go_wp2_with fail
        refine (cV _ hb1).mono ?_
        rintro e w2 ⟨rfl, hb2⟩
        clear hb1
        go_wp2_with fail
        refine (cT _ hb2).mono ?_
        rintro e w3 ⟨rfl, hb3⟩
        clear hb2
        go_wp2_with fail
        refine (cLoad _ hb3).mono ?_
        rintro e w4 ⟨gm, tv, rfl, hm, hb4⟩
        clear hb3
        go_wp2_with fail
        refine (cRead _ hb4).mono ?_
        rintro e w5 ⟨q, rfl, hq, hb5⟩
        clear hb4
        have hm2 := hm.out.below hq.out.2
        have kr := fun hb => raft_ct (w := W) (by omega) hm2 hq.out.1 ht hv _ hR hb
        clear hm2
        go_wp2_with fail
        refine (kr hb5).mono ?_
        rintro e w6 ⟨gs, gr, cp, ps, rfl, hs, hgr, hb6'⟩
        have hb6 := hb5.trans (hb6'.mono hb5.size)
        have e0 := (hb6.cell (p := ⟨wA.heap.size, 0, none⟩) hlt).trans D0.out
        have e1 := (hb6.cell (p := ⟨wA.heap.size, 1, none⟩) hlt).trans D1.out
        have hlt6 : wA.heap.size < w6.heap.size := by have := hb6.size; omega
        have keep : ∀ w', Below w6.heap.size w6 w' → w'.cell? ⟨wA.heap.size, 0, none⟩ = some (.int .i64 s'.pos) ∧ w'.cell? ⟨wA.heap.size, 1, none⟩ = some (.slice ua 32 uc) := fun w' hb => ⟨(hb.cell (p := ⟨wA.heap.size, 0, none⟩) hlt6).trans e0, (hb.cell (p := ⟨wA.heap.size, 1, none⟩) hlt6).trans e1⟩
        have kT : ∀ w', Below w6.heap.size w6 w' → Calls Try.prog 42 #[.pointer (some ⟨gs, 0, none⟩)] w' fun e w'' => ∃ x, e = .returned (.agg #[.int .i64 s'.pos, x]) ∧ Hid (StrRow w'' w''.heap.size x (s'.regs.map TS)) ∧ Below w6.heap.size w6 w'' := fun w' hb => by
          refine (rtext_any w' _ gs gr cp l.length s' ps (by rw [hgs.2.1]; exact hs.kept hb) hgs).mono ?_
          rintro e w'' ⟨x, h1, h2, h3⟩
          exact ⟨x, h1, h2, hb.trans (h3.mono hb.size)⟩
        have kS : ∀ w' x, StrRow w' w'.heap.size x (s'.regs.map TS) → Below w6.heap.size w6 w' → Calls Try.prog 41 #[.agg #[.int .i64 s'.pos, .slice ua 32 uc], .agg #[.int .i64 s'.pos, x]] w' fun e w'' => e = .returned (.bool true) ∧ Below w6.heap.size w6 w'' := fun w' x hx hb => by
          have hb' := hb6.trans (hb.mono hb6.size)
          refine (sameState_any _ _ _ x _ _ w' ((hrow.below hb').mono hb'.size) hx).mono ?_
          rintro e w'' ⟨rfl, h2⟩
          exact ⟨by simp [sameS, sameB_self], hb.trans (h2.mono hb.size)⟩
        have kA : ∀ w', Below w6.heap.size w6 w' → Calls Try.prog 25 #[] w' fun e w'' => e = .returned (.bool true) ∧ Below w6.heap.size w6 w'' := awake03_ct w6
        have HB6 := Lib.hid hb6
        have HKEEP := Lib.hid keep
        have HKT := Lib.hid kT
        have HKS := Lib.hid kS
        have HKA := Lib.hid kA
        clear kr hb5 hb6 hb6' keep kT kS kA hs hgr hrow
        go_wp2
        go_region_held3 (fun w' => w'.cell? ⟨wA.heap.size, 0, none⟩ = some (.int .i64 s'.pos) ∧ w'.cell? ⟨wA.heap.size, 1, none⟩ = some (.slice ua 32 uc))
          (with_reducible (first | exact HKEEP.out _ hbA | exact HKEEP.out _ hbS | exact HKEEP.out _ hbT | exact HKEEP.out _ (Below.refl _ _) | exact HKEEP.out _ (Below.refl _ _).drew))
          ((first
            | ((with_reducible refine (HKT.out _ (by first | exact Below.refl _ _ | exact (Below.refl _ _).drew)).mono ?_); rintro e wT ⟨x, rfl, hx, hbT⟩)
            | ((with_reducible refine (HKS.out _ _ hx.out hbT).mono ?_); rintro e wS ⟨rfl, hbS⟩)
            | ((with_reducible refine (HKA.out _ hbS).mono ?_); rintro e wZ ⟨rfl, hbA⟩)))
        go_wp2
        go_ret
        have hb7 := HB6.out.trans (hbA.mono HB6.out.size)
        exact ⟨rfl, HQ.out.trans ((QBW.out.trans (hb7.mono QBW.out.size)).mono HQ.out.size)⟩
  · have cA := aft_form_ct hl1 s hs fuel (by cases h1 : validB l <;> cases h2 : isTree s <;> simp_all)
    obtain ⟨bv, hbv⟩ : ∃ b, validB l = b := ⟨_, rfl⟩
    cases bv with
    | false =>
      go_wp2_with fail
      refine (cA _ (Below.refl _ _)).mono ?_
      rintro e wA ⟨ua, uc, rfl, hu, hb2⟩
      obtain ⟨W, hW⟩ : ∃ W, wA.alloc (.cells #[.int .i64 0, (.slice ua 0 uc)] 53) = W := ⟨_, rfl⟩
      have hq : Below wA.heap.size wA W := by rw [← hW]; exact (Below.refl _ _).alloc (Nat.le_refl _) _
      have d0 : W.cell? ⟨wA.heap.size, 0, none⟩ = some (.int .i64 0) := by rw [← hW]; exact (block_cells (heap_alloc_new wA _)).1 0
      have d1 : W.cell? ⟨wA.heap.size, 1, none⟩ = some (.slice ua 0 uc) := by rw [← hW]; exact (block_cells (heap_alloc_new wA _)).1 1
      have hlt : wA.heap.size < W.heap.size := by rw [← hW]; simp
      have hrow := (hu.out.below hq).mono hq.size
      have hbW := hb2.trans (hq.mono hb2.size)
      have QBW := Lib.hid hbW
      have D0 := Lib.hid d0
      have D1 := Lib.hid d1
      have hlW := (hl1.below hbW).mono hbW.size
      have cSame := same_ct hlW ((hv'.below hbW).mono hbW.size) true (sameP_self l)
      have cAw := awake03_ct W
      have cN := none_ct (n := 0) (L := []) true (by rfl) hrow
      have cV := cvalid_ct hlW _ hbv
      clear hq hb2 hu d0 d1 hbW hlW hl1 hv'
      clear hbv hgood
      go_wp2_with fail
      refine (cSame _ (Below.refl _ _)).mono ?_
      rintro e w1 ⟨rfl, hb1⟩
      go_wp2_with fail
      refine (cV _ hb1).mono ?_
      rintro e w2 ⟨rfl, hb2⟩
      clear hb1
      have e0 := (hb2.cell (p := ⟨wA.heap.size, 0, none⟩) hlt).trans D0.out
      have e1 := (hb2.cell (p := ⟨wA.heap.size, 1, none⟩) hlt).trans D1.out
      go_wp2_with fail
      refine (cN _ hb2).mono ?_
      rintro e w3 ⟨rfl, hb3⟩
      clear hb2
      go_wp2_with fail
      refine (cAw _ hb3).mono ?_
      rintro e w4 ⟨rfl, hb4⟩
      clear hb3
      go_wp2
      go_ret
      exact ⟨rfl, HQ.out.trans ((QBW.out.trans (hb4.mono QBW.out.size)).mono HQ.out.size)⟩
    | true =>
      have htr : isTree s = false := by cases h2 : isTree s <;> simp_all
      go_wp2_with fail
      refine (cA _ (Below.refl _ _)).mono ?_
      rintro e wA ⟨ua, uc, rfl, hu, hb2⟩
      obtain ⟨W, hW⟩ : ∃ W, wA.alloc (.cells #[.int .i64 0, (.slice ua 0 uc)] 53) = W := ⟨_, rfl⟩
      have hq : Below wA.heap.size wA W := by rw [← hW]; exact (Below.refl _ _).alloc (Nat.le_refl _) _
      have d0 : W.cell? ⟨wA.heap.size, 0, none⟩ = some (.int .i64 0) := by rw [← hW]; exact (block_cells (heap_alloc_new wA _)).1 0
      have d1 : W.cell? ⟨wA.heap.size, 1, none⟩ = some (.slice ua 0 uc) := by rw [← hW]; exact (block_cells (heap_alloc_new wA _)).1 1
      have hlt : wA.heap.size < W.heap.size := by rw [← hW]; simp
      have hrow := (hu.out.below hq).mono hq.size
      have hbW := hb2.trans (hq.mono hb2.size)
      have QBW := Lib.hid hbW
      have D0 := Lib.hid d0
      have D1 := Lib.hid d1
      have hlW := (hl1.below hbW).mono hbW.size
      have cSame := same_ct hlW ((hv'.below hbW).mono hbW.size) true (sameP_self l)
      have cAw := awake03_ct W
      have cN := none_ct (n := 0) (L := []) true (by rfl) hrow
      have cV := cvalid_ct hlW _ hbv
      have cT := tvalid_ct (w := W) s hs _ htr
      clear hq hb2 hu d0 d1 hbW hlW hl1 hv'
      clear hbv hgood htr
      go_wp2_with fail
      refine (cSame _ (Below.refl _ _)).mono ?_
      rintro e w1 ⟨rfl, hb1⟩
      go_wp2_with fail
      refine (cV _ hb1).mono ?_
      rintro e w2 ⟨rfl, hb2⟩
      clear hb1
      go_wp2_with fail
      refine (cT _ hb2).mono ?_
      rintro e w3 ⟨rfl, hb3⟩
      clear hb2
      have e0 := (hb3.cell (p := ⟨wA.heap.size, 0, none⟩) hlt).trans D0.out
      have e1 := (hb3.cell (p := ⟨wA.heap.size, 1, none⟩) hlt).trans D1.out
      go_wp2_with fail
      refine (cN _ hb3).mono ?_
      rintro e w4 ⟨rfl, hb4⟩
      clear hb3
      go_wp2_with fail
      refine (cAw _ hb4).mono ?_
      rintro e w5 ⟨rfl, hb5⟩
      clear hb4
      go_wp2
      go_ret
      exact ⟨rfl, HQ.out.trans ((QBW.out.trans (hb5.mono QBW.out.size)).mono HQ.out.size)⟩

end Go.Proofs.Ytieocihlkpipmaa

namespace Go.Proofs.Ytieocihlkpipmaa
open Go.RowKit

theorem blk_lift {A B : World} {b : Nat} {o : Obj} (hb : Below A.heap.size A B) (h : A.heap[b]? = some o) : B.heap[b]? = some o := below_blk hb h (Array.getElem?_eq_some_iff.1 h).1
theorem same_at {w : World} {v v' : Value} {l l' : List Ins} (b : Bool) (h1 : InsRow w w.heap.size v l) (h2 : InsRow w w.heap.size v' l') (hb : sameP l l' = b) : Calls Try.prog 22 #[v, v'] w fun e w' => e = .returned (.bool b) ∧ Below w.heap.size w w' := same_ct h1 h2 b hb w (Below.refl _ _)
theorem same_self {w : World} {v v' : Value} {l : List Ins} (h1 : InsRow w w.heap.size v l) (h2 : InsRow w w.heap.size v' l) : Calls Try.prog 22 #[v, v'] w fun e w' => e = .returned (.bool true) ∧ Below w.heap.size w w' := same_at true h1 h2 (sameP_self l)
theorem cvalid_at {w : World} {v : Value} {l : List Ins} (b : Bool) (hb : validB l = b) (h1 : InsRow w w.heap.size v l) : Calls Try.prog 23 #[v] w fun e w' => e = .returned (.bool b) ∧ Below w.heap.size w w' := cvalid_ct h1 b hb w (Below.refl _ _)
theorem tvalid_at (s : ByteArray) (hs : s.size ≤ 140737488355328) (b : Bool) (hb : isTree s = b) (w : World) : Calls Try.prog 24 #[.string s] w fun e w' => e = .returned (.bool b) ∧ Below w.heap.size w w' := tvalid_ct s hs b hb w (Below.refl _ _)
/-- Run, where it may run. -/
theorem runOk_at {w : World} {v : Value} {l : List Ins} {t : Tr} {S : ByteArray} (K : Nat) (Ki : Int) (y : ByteArray) (k : Nat) (er : Int) (hr : (goF l K 0 (startS t)).run = (y, k, er)) (hv : validB l = true) (ht : t.size ≤ 2000000) (hS : TS t = S) (hKi : Ki = K) (hK : K ≤ 10000000) (hl : InsRow w w.heap.size v l) :
    Calls Try.prog 21 #[v, .string S, .int .i64 Ki] w fun e w' => e = .returned (.tuple #[.string y, .int .i64 k, .int .i64 er]) ∧ Below w.heap.size w w' := run_at hv ht hS K Ki hKi hK y k er hr w v hl (Below.refl _ _)

end Go.Proofs.Ytieocihlkpipmaa

namespace Go.Proofs.Ytieocihlkpipmaa
open Go.RowKit

set_option maxHeartbeats 1000000 in
theorem rhead_any (d : ByteArray) (hd : d.size ≤ 140737488355328) (w : World) :
    Calls Try.prog 78 #[.string d] w fun e w' => e = .returned (.slice (some ⟨w.heap.size, 0, none⟩) 3 3) ∧ Hid (w'.ownsRow w.heap.size 73 5 (.slice (some ⟨w.heap.size, 0, none⟩) 3 3) 3 (inscells (specH d))) ∧ Below w.heap.size w w' := by
  have hown := Lib.hid (specH_own w d)
  go_enter Try.func78, Try.ntmps78
  go_wp2
  go_ret
  exact ⟨rfl, hown, (Below.refl _ _).alloc (Nat.le_refl _) _⟩

set_option maxHeartbeats 2000000 in
theorem rspec_any (v : Value) (l : List Ins) (hn4 : l.length ≤ 4000) (d : ByteArray) (hds : d.size ≤ 140737488355328) (w : World) (hl : InsRow w w.heap.size v l) :
    Calls Try.prog 32 #[v, .string d] w fun e w' => ∃ v', e = .returned v' ∧ InsRow w' w'.heap.size v' (specL d l) ∧ Below w.heap.size w w' := by
  have hwf : ∀ x ∈ specL d l, x.wf := fun x hx => by rcases List.mem_append.1 hx with h | h; exact specH_wf d hds x h; exact hl.1 x h
  have hcells : inscells (specL d l) = inscells (specH d) ++ inscells l := by simp [specL, inscells]
  have hlen := specL_length d l
  have HC := Lib.hid hcells
  have HWF := Lib.hid hwf
  have HLEN := Lib.hid hlen
  have hl0 := hl
  obtain ⟨n, hn'⟩ : ∃ n, l.length = n := ⟨_, rfl⟩
  obtain ⟨ao, cap, rfl⟩ := hl.len
  rw [hn'] at hl0 hn4 ⊢
  have HN := Lib.hid hn'
  have hone := inscells_one l
  have HONE := Lib.hid hone
  clear hwf hcells hlen hl hn' hone
  go_enter Try.func32, Try.ntmps32
  go_wp2_with fail
  refine (rhead_any d hds _).mono ?_
  rintro e w1 ⟨rfl, ho, hb1⟩
  have hs2 : Src w1 (.slice ao n cap) n 5 (inscells l) := by
    have := (hl0.below hb1).src
    rwa [HN.out] at this
  have hsz := hb1.size
  clear hl0
  go_wp2_with (at_builtin; refine app_src el_ins (vx := .slice ao n cap) rfl _ _ rfl rfl ho.out rfl hs2 HONE.out ?c2 ?c3 hsz hb1 (Nat.le_refl _) ?_)
  case c2 => omega
  case c3 => unfold maxLen; omega
  intro v' w3 hown3 hb4 hg
  have hrow : InsRow w3 w3.heap.size v' (specL d l) := InsRow.of_own (n := 3 + n) (by rw [HC.out]; exact hown3) HWF.out (by rw [HLEN.out, HN.out]; omega)
  have HROW := Lib.hid hrow
  obtain ⟨a2, c2, rfl⟩ := own_len hown3
  clear ho hs2 hown3 hg hrow
  go_wp2
  go_ret
  exact ⟨_, rfl, HROW.out, hb4⟩

set_option maxHeartbeats 1000000 in
theorem fits4_any (v : Value) (l : List Ins) (w : World) (B : Nat) (hl : InsRow w B v l) :
    Calls Try.prog 33 #[v] w fun e w' => e = .returned (.bool (fitsP l)) ∧ w = w' := by
  have hll := hl.2.1
  unfold fitsP
  by_cases h : l.length ≤ 4000
  · have kt := trees_any v l w B hl h
    obtain ⟨ao, cap, rfl⟩ := hl.len
    generalize trees l = tr at *
    obtain ⟨bt, hbt⟩ : ∃ b, decide (tr ≤ 2000000) = b := ⟨_, rfl⟩
    have hq : decide ((tr : Int) ≤ 2000000) = bt := by rw [← hbt]; exact decide_eq_decide.2 (by omega)
    rw [hbt]
    clear hbt
    have hI : (l.length : Int) ≤ 4000 := by omega
    generalize l.length = n at *
    clear hl
    simp only [h, decide_true, Bool.true_and]
    clear h
    go_enter Try.func33, Try.ntmps33
    go_wp2_with fail
    refine kt.mono ?_
    rintro e w1 ⟨rfl, rfl⟩
    go_wp2
    go_ret
    exact ⟨rfl, rfl⟩
  · obtain ⟨ao, cap, rfl⟩ := hl.len
    have hI : decide ((l.length : Int) ≤ 4000) = false := decide_eq_false (by omega)
    generalize l.length = n at *
    clear hl
    simp only [h, decide_false, Bool.false_and]
    clear h
    go_enter Try.func33, Try.ntmps33
    go_wp2
    go_ret
    exact ⟨rfl, rfl⟩

def awH : List Ins := [⟨3, 0, 0, 0, ⟨#[]⟩⟩]
theorem awH_new (w : World) : InsRow (w.alloc (.cells #[.int .i64 3, .int .i64 0, .int .i64 0, .int .i64 0, .string ⟨#[]⟩] 73)) (w.alloc (.cells #[.int .i64 3, .int .i64 0, .int .i64 0, .int .i64 0, .string ⟨#[]⟩] 73)).heap.size (.slice (some ⟨w.heap.size, 0, none⟩) 1 1) awH :=
  InsRow.new (w := w) (T := 73) awH (by intro x hx; simp [awH] at hx; subst hx; exact wf_lit _ _ _ _ _ (by unfold i64; decide) (by unfold i64; decide) (by unfold i64; decide) (by unfold i64; decide) (by decide)) (by decide)
theorem awH_run : (goF (specL ⟨#[49, 48, 48]⟩ awH) 10 0 (startS .nil)).run = (⟨#[49, 48, 48]⟩, 4, 0) := by rfl
theorem awNil_run : (goF (specL ⟨#[49, 48, 48]⟩ []) 10 0 (startS (.pair .nil (.pair .nil .nil)))).run = (⟨#[49, 49, 48, 48, 49, 48, 49, 48, 48]⟩, 3, 0) := by rfl
theorem awH_valid : validB awH = true := by decide +kernel
theorem awH_svalid : validB (specL ⟨#[49, 48, 48]⟩ awH) = true := by decide +kernel
theorem awNil_svalid : validB (specL ⟨#[49, 48, 48]⟩ []) = true := by decide +kernel
theorem isTree_100 : isTree ⟨#[49, 48, 48]⟩ = true := by decide +kernel
/-- Spec, relative to a world. -/
theorem specOk_ct {w w' : World} {v : Value} {l : List Ins} {d : ByteArray} (hds : d.size ≤ 140737488355328) (hl : InsRow w' w'.heap.size v l) (hv : validB l = true) (hd : isTree d = true) (hs : validB (specL d l) = true) (hb : Below w.heap.size w w') :
    Calls Try.prog 30 #[v, .string d] w' fun e w'' => ∃ v', e = .returned (.tuple #[v', .int .i64 0]) ∧ Hid (InsRow w'' w''.heap.size v' (specL d l)) ∧ Below w.heap.size w w'' := by
  refine (spec_any v l d hds w' hl hv hd).mono ?_
  intro e w'' h
  rw [if_pos hs] at h
  obtain ⟨v', h1, h2, h3⟩ := h
  exact ⟨v', h1, h2, hb.trans (h3.mono hb.size)⟩
theorem specBig_ct {w w' : World} {v : Value} {l : List Ins} {d : ByteArray} (hds : d.size ≤ 140737488355328) (hl : InsRow w' w'.heap.size v l) (hv : validB l = true) (hd : isTree d = true) (hs : validB (specL d l) = false) (hb : Below w.heap.size w w') :
    Calls Try.prog 30 #[v, .string d] w' fun e w'' => e = .returned (.tuple #[.slice none 0 0, .int .i64 3]) ∧ Below w.heap.size w w'' := by
  refine (spec_any v l d hds w' hl hv hd).mono ?_
  intro e w'' h
  rw [if_neg (by rw [hs]; simp)] at h
  exact ⟨h.1, hb.trans (h.2.mono hb.size)⟩
set_option maxHeartbeats 1000000 in
theorem spec_form (v : Value) (l : List Ins) (d : ByteArray) (hds : d.size ≤ 140737488355328) (w : World) (hl : InsRow w w.heap.size v l) (h : validB l = false ∨ isTree d = false) :
    Calls Try.prog 30 #[v, .string d] w (SpecBad w 1) := by
  cases hv : validB l with
  | false =>
    have kv := codeValidP_at v l w hl _ hv
    clear h hv
    obtain ⟨ao, cap, rfl⟩ := hl.len
    go_enter Try.func30, Try.ntmps30
    go_wp2_with fail
    refine kv.mono ?_
    rintro e w1 ⟨rfl, k1⟩
    go_wp2
    go_ret2
    exact ⟨rfl, k1⟩
  | true =>
    have hd : isTree d = false := by rcases h with h | h; rw [hv] at h; cases h; exact h
    have kv := codeValidP_at v l w hl _ hv
    have kt := treeValid_at d hds _ hd
    clear h hv
    obtain ⟨ao, cap, rfl⟩ := hl.len
    go_enter Try.func30, Try.ntmps30
    go_wp2_with fail
    refine kv.mono ?_
    rintro e w1 ⟨rfl, k1⟩
    go_wp2_with fail
    refine (kt _).mono ?_
    rintro e w2 ⟨rfl, k2⟩
    go_wp2
    go_ret2
    exact ⟨rfl, k1.trans (k2.mono k1.size)⟩
theorem specForm_ct {w : World} {v : Value} {l : List Ins} {d : ByteArray} (hds : d.size ≤ 140737488355328) (hl : InsRow w w.heap.size v l) (h : validB l = false ∨ isTree d = false) : Ct w 30 #[v, .string d] (.tuple #[.slice none 0 0, .int .i64 1]) :=
  Ct.of fun w' hb => spec_form v l d hds w' ((hl.below hb).mono hb.size) h

theorem aw5_1 (w w' : World) (hb : Below w.heap.size w w') : Calls Try.prog 30 #[.slice (some ⟨w'.heap.size, 0, none⟩) 1 1, .string ⟨#[49, 48, 48]⟩] (w'.alloc (.cells #[.int .i64 3, .int .i64 0, .int .i64 0, .int .i64 0, .string ⟨#[]⟩] 73)) fun e w'' => ∃ v', e = .returned (.tuple #[v', .int .i64 0]) ∧ Hid (InsRow w'' w''.heap.size v' (specL ⟨#[49, 48, 48]⟩ awH)) ∧ Below w.heap.size w w'' :=
  specOk_ct (by decide) (awH_new w') awH_valid isTree_100 awH_svalid (hb.alloc hb.size _)
theorem aw5_2 (w w' : World) (hb : Below w.heap.size w w') : Calls Try.prog 30 #[.slice none 0 0, .string ⟨#[49, 48, 48]⟩] w' fun e w'' => ∃ v', e = .returned (.tuple #[v', .int .i64 0]) ∧ Hid (InsRow w'' w''.heap.size v' (specL ⟨#[49, 48, 48]⟩ [])) ∧ Below w.heap.size w w'' :=
  specOk_ct (by decide) (nil_row w' _) awN_valid isTree_100 awNil_svalid hb

set_option maxRecDepth 100000 in
set_option maxHeartbeats 2000000 in
theorem awake05 (w : World) : Calls Try.prog 31 #[] w fun e w' => e = .returned (.bool true) ∧ Below w.heap.size w w' := by
  go_enter Try.func31, Try.ntmps31
  go_wp2_with fail
  refine (aw5_1 w _ (Below.refl _ _)).mono ?_
  rintro e w1 ⟨v1, rfl, h1, hb1⟩
  have k2 := run_at (w := w) (l := specL ⟨#[49, 48, 48]⟩ awH) awH_svalid (t := .nil) (by decide) rfl 10 10 rfl (by decide) _ _ _ awH_run _ _ h1.out hb1
  clear h1
  go_wp2_with fail
  refine k2.mono ?_
  rintro e w2 ⟨rfl, hb2⟩
  clear hb1
  go_wp2_with fail
  refine (aw5_2 w _ hb2).mono ?_
  rintro e w3 ⟨v2, rfl, h2, hb3⟩
  clear hb2
  have k3 := run_at (w := w) (l := specL ⟨#[49, 48, 48]⟩ []) awNil_svalid (t := .pair .nil (.pair .nil .nil)) (by decide) rfl 10 10 rfl (by decide) _ _ _ awNil_run _ _ h2.out hb3
  clear h2
  go_wp2_with fail
  refine k3.mono ?_
  rintro e w4 ⟨rfl, hb4⟩
  clear hb3
  go_wp2
  go_ret
  exact ⟨rfl, hb4⟩
theorem awake05_ct (w : World) : Ct w 31 #[] (.bool true) := Ct.of_any awake05

theorem specOk_at {w : World} {v : Value} {l : List Ins} {d : ByteArray} (hds : d.size ≤ 140737488355328) (hv : validB l = true) (hd : isTree d = true) (hs : validB (specL d l) = true) (hl : InsRow w w.heap.size v l) :
    Calls Try.prog 30 #[v, .string d] w fun e w' => ∃ v', e = .returned (.tuple #[v', .int .i64 0]) ∧ InsRow w' w'.heap.size v' (specL d l) ∧ Below w.heap.size w w' := specOk_ct hds hl hv hd hs (Below.refl _ _)
theorem specBig_at {w : World} {v : Value} {l : List Ins} {d : ByteArray} (hds : d.size ≤ 140737488355328) (hv : validB l = true) (hd : isTree d = true) (hs : validB (specL d l) = false) (hl : InsRow w w.heap.size v l) :
    Calls Try.prog 30 #[v, .string d] w fun e w' => e = .returned (.tuple #[.slice none 0 0, .int .i64 3]) ∧ Below w.heap.size w w' := specBig_ct hds hl hv hd hs (Below.refl _ _)
theorem fits4_at {w : World} {v : Value} {l : List Ins} (b : Bool) (hb : fitsP l = b) (hl : InsRow w w.heap.size v l) :
    Calls Try.prog 33 #[v] w fun e w' => e = .returned (.bool b) ∧ Below w.heap.size w w' :=
  (fits4_any v l w _ hl).mono fun e w' h => ⟨by rw [← hb]; exact h.1, by rw [← h.2]; exact Below.refl _ _⟩

set_option maxRecDepth 100000 in
set_option maxHeartbeats 4000000 in
theorem law_SpecMakes {w : World} (v : Value) (l : List Ins) (hl : InsRow w w.heap.size v l) (s : ByteArray) (hs : s.size ≤ 140737488355328) :
    Calls Try.prog 5 #[v, .string s] w fun e w' => e = .returned (.bool true) ∧ Below w.heap.size w w' := by
  have hl := Lib.hid hl
  by_cases hgood : validB l = true ∧ isTree s = true
  · have HV := Lib.hid hgood.1
    have HT := Lib.hid hgood.2
    obtain ⟨b, hfit⟩ : ∃ b, validB (specL s l) = b := ⟨_, rfl⟩
    have hff : fitsP (specL s l) = b := by rw [← specL_valid s l HT.out HV.out]; exact hfit
    have HF := Lib.hid hfit
    have HFF := Lib.hid hff
    clear hgood hfit hff
    cases b with
    | true =>
      go_enter Try.func5, Try.ntmps5
      go_wp2_with fail
      refine (twin_any v l _ hl.out).mono ?_
      rintro e w1 ⟨v', rfl, hv', hb1⟩
      have hl := Lib.hid ((hl.out.below hb1).mono hb1.size)
      have ch1 := hb1
      clear hb1
      have hv' := Lib.hid hv'
      go_wp2_with fail
      refine (specOk_at hs HV.out HT.out HF.out hl.out).mono ?_
      rintro e w2 ⟨v1, rfl, h1, hb2⟩
      have hl := Lib.hid ((hl.out.below hb2).mono hb2.size)
      have hv' := Lib.hid ((hv'.out.below hb2).mono hb2.size)
      have ch2 := (ch1).trans (hb2.mono (ch1).size)
      clear ch1
      clear hb2
      have h1 := Lib.hid h1
      go_wp2_with fail
      refine (same_self hl.out hv'.out).mono ?_
      rintro e w3 ⟨rfl, hb3⟩
      have hl := Lib.hid ((hl.out.below hb3).mono hb3.size)
      have hv' := Lib.hid ((hv'.out.below hb3).mono hb3.size)
      have h1 := Lib.hid ((h1.out.below hb3).mono hb3.size)
      have ch3 := (ch2).trans (hb3.mono (ch2).size)
      clear ch2
      clear hb3
      go_wp2_with fail
      refine (cvalid_at _ HV.out hl.out).mono ?_
      rintro e w4 ⟨rfl, hb4⟩
      have hl := Lib.hid ((hl.out.below hb4).mono hb4.size)
      have hv' := Lib.hid ((hv'.out.below hb4).mono hb4.size)
      have h1 := Lib.hid ((h1.out.below hb4).mono hb4.size)
      have ch4 := (ch3).trans (hb4.mono (ch3).size)
      clear ch3
      clear hb4
      go_wp2_with fail
      refine (tvalid_at s hs _ HT.out _).mono ?_
      rintro e w5 ⟨rfl, hb5⟩
      have hl := Lib.hid ((hl.out.below hb5).mono hb5.size)
      have hv' := Lib.hid ((hv'.out.below hb5).mono hb5.size)
      have h1 := Lib.hid ((h1.out.below hb5).mono hb5.size)
      have ch5 := (ch4).trans (hb5.mono (ch4).size)
      clear ch4
      clear hb5
      go_wp2_with fail
      refine (rspec_any v l (validB_len HV.out) s hs _ hl.out).mono ?_
      rintro e w6 ⟨v2, rfl, h2, hb6⟩
      have hl := Lib.hid ((hl.out.below hb6).mono hb6.size)
      have hv' := Lib.hid ((hv'.out.below hb6).mono hb6.size)
      have h1 := Lib.hid ((h1.out.below hb6).mono hb6.size)
      have ch6 := (ch5).trans (hb6.mono (ch5).size)
      clear ch5
      clear hb6
      have h2 := Lib.hid h2
      go_wp2_with fail
      refine (fits4_at _ HFF.out h2.out).mono ?_
      rintro e w7 ⟨rfl, hb7⟩
      have hl := Lib.hid ((hl.out.below hb7).mono hb7.size)
      have hv' := Lib.hid ((hv'.out.below hb7).mono hb7.size)
      have h1 := Lib.hid ((h1.out.below hb7).mono hb7.size)
      have h2 := Lib.hid ((h2.out.below hb7).mono hb7.size)
      have ch7 := (ch6).trans (hb7.mono (ch6).size)
      clear ch6
      clear hb7
      go_wp2_with fail
      refine (same_self h1.out h2.out).mono ?_
      rintro e w8 ⟨rfl, hb8⟩
      have hl := Lib.hid ((hl.out.below hb8).mono hb8.size)
      have hv' := Lib.hid ((hv'.out.below hb8).mono hb8.size)
      have h1 := Lib.hid ((h1.out.below hb8).mono hb8.size)
      have h2 := Lib.hid ((h2.out.below hb8).mono hb8.size)
      have ch8 := (ch7).trans (hb8.mono (ch7).size)
      clear ch7
      clear hb8
      go_wp2_with fail
      refine (awake05 _).mono ?_
      rintro e w9 ⟨rfl, hb9⟩
      have hl := Lib.hid ((hl.out.below hb9).mono hb9.size)
      have hv' := Lib.hid ((hv'.out.below hb9).mono hb9.size)
      have h1 := Lib.hid ((h1.out.below hb9).mono hb9.size)
      have h2 := Lib.hid ((h2.out.below hb9).mono hb9.size)
      have ch9 := (ch8).trans (hb9.mono (ch8).size)
      clear ch8
      clear hb9
      go_wp2
      go_ret
      exact ⟨rfl, ch9⟩
    | false =>
      go_enter Try.func5, Try.ntmps5
      go_wp2_with fail
      refine (twin_any v l _ hl.out).mono ?_
      rintro e w1 ⟨v', rfl, hv', hb1⟩
      have hl := Lib.hid ((hl.out.below hb1).mono hb1.size)
      have ch1 := hb1
      clear hb1
      have hv' := Lib.hid hv'
      go_wp2_with fail
      refine (specBig_at hs HV.out HT.out HF.out hl.out).mono ?_
      rintro e w2 ⟨rfl, hb2⟩
      have hl := Lib.hid ((hl.out.below hb2).mono hb2.size)
      have hv' := Lib.hid ((hv'.out.below hb2).mono hb2.size)
      have ch2 := (ch1).trans (hb2.mono (ch1).size)
      clear ch1
      clear hb2
      go_wp2_with fail
      refine (same_self hl.out hv'.out).mono ?_
      rintro e w3 ⟨rfl, hb3⟩
      have hl := Lib.hid ((hl.out.below hb3).mono hb3.size)
      have hv' := Lib.hid ((hv'.out.below hb3).mono hb3.size)
      have ch3 := (ch2).trans (hb3.mono (ch2).size)
      clear ch2
      clear hb3
      go_wp2_with fail
      refine (cvalid_at _ HV.out hl.out).mono ?_
      rintro e w4 ⟨rfl, hb4⟩
      have hl := Lib.hid ((hl.out.below hb4).mono hb4.size)
      have hv' := Lib.hid ((hv'.out.below hb4).mono hb4.size)
      have ch4 := (ch3).trans (hb4.mono (ch3).size)
      clear ch3
      clear hb4
      go_wp2_with fail
      refine (tvalid_at s hs _ HT.out _).mono ?_
      rintro e w5 ⟨rfl, hb5⟩
      have hl := Lib.hid ((hl.out.below hb5).mono hb5.size)
      have hv' := Lib.hid ((hv'.out.below hb5).mono hb5.size)
      have ch5 := (ch4).trans (hb5.mono (ch4).size)
      clear ch4
      clear hb5
      go_wp2_with fail
      refine (rspec_any v l (validB_len HV.out) s hs _ hl.out).mono ?_
      rintro e w6 ⟨v2, rfl, h2, hb6⟩
      have hl := Lib.hid ((hl.out.below hb6).mono hb6.size)
      have hv' := Lib.hid ((hv'.out.below hb6).mono hb6.size)
      have ch6 := (ch5).trans (hb6.mono (ch5).size)
      clear ch5
      clear hb6
      have h2 := Lib.hid h2
      go_wp2_with fail
      refine (fits4_at _ HFF.out h2.out).mono ?_
      rintro e w7 ⟨rfl, hb7⟩
      have hl := Lib.hid ((hl.out.below hb7).mono hb7.size)
      have hv' := Lib.hid ((hv'.out.below hb7).mono hb7.size)
      have h2 := Lib.hid ((h2.out.below hb7).mono hb7.size)
      have ch7 := (ch6).trans (hb7.mono (ch6).size)
      clear ch6
      clear hb7
      go_wp2_with fail
      refine (awake05 _).mono ?_
      rintro e w8 ⟨rfl, hb8⟩
      have hl := Lib.hid ((hl.out.below hb8).mono hb8.size)
      have hv' := Lib.hid ((hv'.out.below hb8).mono hb8.size)
      have h2 := Lib.hid ((h2.out.below hb8).mono hb8.size)
      have ch8 := (ch7).trans (hb8.mono (ch7).size)
      clear ch7
      clear hb8
      go_wp2
      go_ret
      exact ⟨rfl, ch8⟩
  · have HOR := Lib.hid (show validB l = false ∨ isTree s = false by cases h1 : validB l <;> cases h2 : isTree s <;> simp_all)
    obtain ⟨bv, hbv⟩ : ∃ b, validB l = b := ⟨_, rfl⟩
    have HV := Lib.hid hbv
    cases bv with
    | false =>
      clear hbv hgood
      go_enter Try.func5, Try.ntmps5
      go_wp2_with fail
      refine (twin_any v l _ hl.out).mono ?_
      rintro e w1 ⟨v', rfl, hv', hb1⟩
      have hl := Lib.hid ((hl.out.below hb1).mono hb1.size)
      have ch1 := hb1
      clear hb1
      have hv' := Lib.hid hv'
      go_wp2_with fail
      refine (spec_form v l s hs _ hl.out HOR.out).mono ?_
      rintro e w2 ⟨rfl, hb2⟩
      have hl := Lib.hid ((hl.out.below hb2).mono hb2.size)
      have hv' := Lib.hid ((hv'.out.below hb2).mono hb2.size)
      have ch2 := (ch1).trans (hb2.mono (ch1).size)
      clear ch1
      clear hb2
      go_wp2_with fail
      refine (same_self hl.out hv'.out).mono ?_
      rintro e w3 ⟨rfl, hb3⟩
      have hl := Lib.hid ((hl.out.below hb3).mono hb3.size)
      have hv' := Lib.hid ((hv'.out.below hb3).mono hb3.size)
      have ch3 := (ch2).trans (hb3.mono (ch2).size)
      clear ch2
      clear hb3
      go_wp2_with fail
      refine (cvalid_at _ HV.out hl.out).mono ?_
      rintro e w4 ⟨rfl, hb4⟩
      have hl := Lib.hid ((hl.out.below hb4).mono hb4.size)
      have hv' := Lib.hid ((hv'.out.below hb4).mono hb4.size)
      have ch4 := (ch3).trans (hb4.mono (ch3).size)
      clear ch3
      clear hb4
      go_wp2_with fail
      refine (awake05 _).mono ?_
      rintro e w5 ⟨rfl, hb5⟩
      have hl := Lib.hid ((hl.out.below hb5).mono hb5.size)
      have hv' := Lib.hid ((hv'.out.below hb5).mono hb5.size)
      have ch5 := (ch4).trans (hb5.mono (ch4).size)
      clear ch4
      clear hb5
      go_wp2
      go_ret
      exact ⟨rfl, ch5⟩
    | true =>
      have htr : isTree s = false := by cases h2 : isTree s <;> simp_all
      have HT := Lib.hid htr
      clear hbv hgood htr
      go_enter Try.func5, Try.ntmps5
      go_wp2_with fail
      refine (twin_any v l _ hl.out).mono ?_
      rintro e w1 ⟨v', rfl, hv', hb1⟩
      have hl := Lib.hid ((hl.out.below hb1).mono hb1.size)
      have ch1 := hb1
      clear hb1
      have hv' := Lib.hid hv'
      go_wp2_with fail
      refine (spec_form v l s hs _ hl.out HOR.out).mono ?_
      rintro e w2 ⟨rfl, hb2⟩
      have hl := Lib.hid ((hl.out.below hb2).mono hb2.size)
      have hv' := Lib.hid ((hv'.out.below hb2).mono hb2.size)
      have ch2 := (ch1).trans (hb2.mono (ch1).size)
      clear ch1
      clear hb2
      go_wp2_with fail
      refine (same_self hl.out hv'.out).mono ?_
      rintro e w3 ⟨rfl, hb3⟩
      have hl := Lib.hid ((hl.out.below hb3).mono hb3.size)
      have hv' := Lib.hid ((hv'.out.below hb3).mono hb3.size)
      have ch3 := (ch2).trans (hb3.mono (ch2).size)
      clear ch2
      clear hb3
      go_wp2_with fail
      refine (cvalid_at _ HV.out hl.out).mono ?_
      rintro e w4 ⟨rfl, hb4⟩
      have hl := Lib.hid ((hl.out.below hb4).mono hb4.size)
      have hv' := Lib.hid ((hv'.out.below hb4).mono hb4.size)
      have ch4 := (ch3).trans (hb4.mono (ch3).size)
      clear ch3
      clear hb4
      go_wp2_with fail
      refine (tvalid_at s hs _ HT.out _).mono ?_
      rintro e w5 ⟨rfl, hb5⟩
      have hl := Lib.hid ((hl.out.below hb5).mono hb5.size)
      have hv' := Lib.hid ((hv'.out.below hb5).mono hb5.size)
      have ch5 := (ch4).trans (hb5.mono (ch4).size)
      clear ch4
      clear hb5
      go_wp2_with fail
      refine (awake05 _).mono ?_
      rintro e w6 ⟨rfl, hb6⟩
      have hl := Lib.hid ((hl.out.below hb6).mono hb6.size)
      have hv' := Lib.hid ((hv'.out.below hb6).mono hb6.size)
      have ch6 := (ch5).trans (hb6.mono (ch5).size)
      clear ch5
      clear hb6
      go_wp2
      go_ret
      exact ⟨rfl, ch6⟩

end Go.Proofs.Ytieocihlkpipmaa

namespace Go.Proofs.Ytieocihlkpipmaa
open Go.RowKit

set_option maxRecDepth 100000 in
set_option maxHeartbeats 4000000 in
theorem law_SpecSupplies {w : World} (v : Value) (l : List Ins) (hl : InsRow w w.heap.size v l) (d : ByteArray) (hd : d.size ≤ 140737488355328) (x : ByteArray) (hx : x.size ≤ 140737488355328) (fuel : Int) (hf : -9223372036854775808 ≤ fuel ∧ fuel ≤ 9223372036854775807) :
    Calls Try.prog 6 #[v, .string d, .string x, .int .i64 fuel] w fun e w' => e = .returned (.bool true) ∧ Below w.heap.size w w' := by
  have hl := Lib.hid hl
  obtain ⟨bv, hbv⟩ : ∃ b, validB l = b := ⟨_, rfl⟩
  have HV := Lib.hid hbv
  clear hbv
  cases bv with
  | false =>
    go_enter Try.func6, Try.ntmps6
    go_wp2_with fail
    refine (cvalid_at _ HV.out hl.out).mono ?_
    rintro e w1 ⟨rfl, hb1⟩
    have hl := Lib.hid ((hl.out.below hb1).mono hb1.size)
    have ch1 := hb1
    clear hb1
    go_wp2_with fail
    refine (awake05 _).mono ?_
    rintro e w2 ⟨rfl, hb2⟩
    have hl := Lib.hid ((hl.out.below hb2).mono hb2.size)
    have ch2 := (ch1).trans (hb2.mono (ch1).size)
    clear ch1
    clear hb2
    go_wp2
    go_ret
    exact ⟨rfl, ch2⟩
  | true =>
    obtain ⟨bd, hbd⟩ : ∃ b, isTree d = b := ⟨_, rfl⟩
    have HD := Lib.hid hbd
    clear hbd
    cases bd with
    | false =>
      go_enter Try.func6, Try.ntmps6
      go_wp2_with fail
      refine (cvalid_at _ HV.out hl.out).mono ?_
      rintro e w1 ⟨rfl, hb1⟩
      have hl := Lib.hid ((hl.out.below hb1).mono hb1.size)
      have ch1 := hb1
      clear hb1
      go_wp2_with fail
      refine (tvalid_at d hd _ HD.out _).mono ?_
      rintro e w2 ⟨rfl, hb2⟩
      have hl := Lib.hid ((hl.out.below hb2).mono hb2.size)
      have ch2 := (ch1).trans (hb2.mono (ch1).size)
      clear ch1
      clear hb2
      go_wp2_with fail
      refine (awake05 _).mono ?_
      rintro e w3 ⟨rfl, hb3⟩
      have hl := Lib.hid ((hl.out.below hb3).mono hb3.size)
      have ch3 := (ch2).trans (hb3.mono (ch2).size)
      clear ch2
      clear hb3
      go_wp2
      go_ret
      exact ⟨rfl, ch3⟩
    | true =>
      obtain ⟨bx, hbx⟩ : ∃ b, isTree x = b := ⟨_, rfl⟩
      have HX := Lib.hid hbx
      clear hbx
      cases bx with
      | false =>
        go_enter Try.func6, Try.ntmps6
        go_wp2_with fail
        refine (cvalid_at _ HV.out hl.out).mono ?_
        rintro e w1 ⟨rfl, hb1⟩
        have hl := Lib.hid ((hl.out.below hb1).mono hb1.size)
        have ch1 := hb1
        clear hb1
        go_wp2_with fail
        refine (tvalid_at d hd _ HD.out _).mono ?_
        rintro e w2 ⟨rfl, hb2⟩
        have hl := Lib.hid ((hl.out.below hb2).mono hb2.size)
        have ch2 := (ch1).trans (hb2.mono (ch1).size)
        clear ch1
        clear hb2
        go_wp2_with fail
        refine (tvalid_at x hx _ HX.out _).mono ?_
        rintro e w3 ⟨rfl, hb3⟩
        have hl := Lib.hid ((hl.out.below hb3).mono hb3.size)
        have ch3 := (ch2).trans (hb3.mono (ch2).size)
        clear ch2
        clear hb3
        go_wp2_with fail
        refine (awake05 _).mono ?_
        rintro e w4 ⟨rfl, hb4⟩
        have hl := Lib.hid ((hl.out.below hb4).mono hb4.size)
        have ch4 := (ch3).trans (hb4.mono (ch3).size)
        clear ch3
        clear hb4
        go_wp2
        go_ret
        exact ⟨rfl, ch4⟩
      | true =>
        by_cases hf1 : fuel < 0 ∨ (0 ≤ fuel ∧ 9999997 < fuel)
        · rcases hf1 with hf1 | ⟨hf0, hf1⟩
          all_goals
            go_enter Try.func6, Try.ntmps6
            go_wp2_with fail
            refine (cvalid_at _ HV.out hl.out).mono ?_
            rintro e w1 ⟨rfl, hb1⟩
            have hl := Lib.hid ((hl.out.below hb1).mono hb1.size)
            have ch1 := hb1
            clear hb1
            go_wp2_with fail
            refine (tvalid_at d hd _ HD.out _).mono ?_
            rintro e w2 ⟨rfl, hb2⟩
            have hl := Lib.hid ((hl.out.below hb2).mono hb2.size)
            have ch2 := (ch1).trans (hb2.mono (ch1).size)
            clear ch1
            clear hb2
            go_wp2_with fail
            refine (tvalid_at x hx _ HX.out _).mono ?_
            rintro e w3 ⟨rfl, hb3⟩
            have hl := Lib.hid ((hl.out.below hb3).mono hb3.size)
            have ch3 := (ch2).trans (hb3.mono (ch2).size)
            clear ch2
            clear hb3
            go_wp2_with fail
            refine (awake05 _).mono ?_
            rintro e w4 ⟨rfl, hb4⟩
            have hl := Lib.hid ((hl.out.below hb4).mono hb4.size)
            have ch4 := (ch3).trans (hb4.mono (ch3).size)
            clear ch3
            clear hb4
            go_wp2
            go_ret
            exact ⟨rfl, ch4⟩
        · obtain ⟨K, rfl⟩ := Int.eq_ofNat_of_zero_le (by omega : 0 ≤ fuel)
          have hK : (K : Int) ≤ 9999997 := by omega
          clear hf1
          obtain ⟨bf, hbf⟩ : ∃ b, validB (specL d l) = b := ⟨_, rfl⟩
          have HF := Lib.hid hbf
          clear hbf
          cases bf with
          | false =>
            go_enter Try.func6, Try.ntmps6
            go_wp2_with fail
            refine (cvalid_at _ HV.out hl.out).mono ?_
            rintro e w1 ⟨rfl, hb1⟩
            have hl := Lib.hid ((hl.out.below hb1).mono hb1.size)
            have ch1 := hb1
            clear hb1
            go_wp2_with fail
            refine (tvalid_at d hd _ HD.out _).mono ?_
            rintro e w2 ⟨rfl, hb2⟩
            have hl := Lib.hid ((hl.out.below hb2).mono hb2.size)
            have ch2 := (ch1).trans (hb2.mono (ch1).size)
            clear ch1
            clear hb2
            go_wp2_with fail
            refine (tvalid_at x hx _ HX.out _).mono ?_
            rintro e w3 ⟨rfl, hb3⟩
            have hl := Lib.hid ((hl.out.below hb3).mono hb3.size)
            have ch3 := (ch2).trans (hb3.mono (ch2).size)
            clear ch2
            clear hb3
            go_wp2_with fail
            refine (twin_any v l _ hl.out).mono ?_
            rintro e w4 ⟨v', rfl, hv', hb4⟩
            have hl := Lib.hid ((hl.out.below hb4).mono hb4.size)
            have ch4 := (ch3).trans (hb4.mono (ch3).size)
            clear ch3
            clear hb4
            have hv' := Lib.hid hv'
            go_wp2_with fail
            refine (specBig_at hd HV.out HD.out HF.out hv'.out).mono ?_
            rintro e w5 ⟨rfl, hb5⟩
            have hl := Lib.hid ((hl.out.below hb5).mono hb5.size)
            have hv' := Lib.hid ((hv'.out.below hb5).mono hb5.size)
            have ch5 := (ch4).trans (hb5.mono (ch4).size)
            clear ch4
            clear hb5
            go_wp2_with fail
            refine (awake05 _).mono ?_
            rintro e w6 ⟨rfl, hb6⟩
            have hl := Lib.hid ((hl.out.below hb6).mono hb6.size)
            have hv' := Lib.hid ((hv'.out.below hb6).mono hb6.size)
            have ch6 := (ch5).trans (hb6.mono (ch5).size)
            clear ch5
            clear hb6
            go_wp2
            go_ret
            exact ⟨rfl, ch6⟩
          | true =>
            obtain ⟨td, htd, hdz⟩ := isTree_get HD.out
            obtain ⟨t, htx, ht⟩ := isTree_get HX.out
            have z1 : (d.size : Int) = td.size := by rw [htd, TS_size]
            have z2 : (x.size : Int) = t.size := by rw [htx, TS_size]
            have HTD := Lib.hid htd
            have HS := Lib.hid htx.symm
            have hF' := HF.out
            rw [htd] at hF'
            have HF' := Lib.hid hF'
            clear htd htx hF'
            by_cases hsz : 2000000 ≤ td.size + t.size
            · have HR1 : Hid ((goF (specL d l) (K + 3) 0 (startS t)).run = (⟨#[]⟩, 0, 3)) := by
                show (goF (specL d l) (K + 3) 0 (startS t)).run = (⟨#[]⟩, 0, 3)
                rw [HTD.out, spec_big td t hdz l (by simp only [Tr.size]; omega) K]; rfl
              have hsI : (2000000 : Int) ≤ (d.size : Int) + (x.size : Int) := by omega
              clear z1 z2 hsz
              go_enter Try.func6, Try.ntmps6
              go_wp2_with fail
              refine (cvalid_at _ HV.out hl.out).mono ?_
              rintro e w1 ⟨rfl, hb1⟩
              have hl := Lib.hid ((hl.out.below hb1).mono hb1.size)
              have ch1 := hb1
              clear hb1
              go_wp2_with fail
              refine (tvalid_at d hd _ HD.out _).mono ?_
              rintro e w2 ⟨rfl, hb2⟩
              have hl := Lib.hid ((hl.out.below hb2).mono hb2.size)
              have ch2 := (ch1).trans (hb2.mono (ch1).size)
              clear ch1
              clear hb2
              go_wp2_with fail
              refine (tvalid_at x hx _ HX.out _).mono ?_
              rintro e w3 ⟨rfl, hb3⟩
              have hl := Lib.hid ((hl.out.below hb3).mono hb3.size)
              have ch3 := (ch2).trans (hb3.mono (ch2).size)
              clear ch2
              clear hb3
              go_wp2_with fail
              refine (twin_any v l _ hl.out).mono ?_
              rintro e w4 ⟨v', rfl, hv', hb4⟩
              have hl := Lib.hid ((hl.out.below hb4).mono hb4.size)
              have ch4 := (ch3).trans (hb4.mono (ch3).size)
              clear ch3
              clear hb4
              have hv' := Lib.hid hv'
              go_wp2_with fail
              refine (specOk_at hd HV.out HD.out HF.out hv'.out).mono ?_
              rintro e w5 ⟨v1, rfl, h1, hb5⟩
              have hl := Lib.hid ((hl.out.below hb5).mono hb5.size)
              have hv' := Lib.hid ((hv'.out.below hb5).mono hb5.size)
              have ch5 := (ch4).trans (hb5.mono (ch4).size)
              clear ch4
              clear hb5
              have h1 := Lib.hid h1
              go_wp2_with fail
              refine (runOk_at (K + 3) (K + 3) _ _ _ HR1.out HF.out ht HS.out (by omega) (by omega) h1.out).mono ?_
              rintro e w6 ⟨rfl, hb6⟩
              have hl := Lib.hid ((hl.out.below hb6).mono hb6.size)
              have hv' := Lib.hid ((hv'.out.below hb6).mono hb6.size)
              have h1 := Lib.hid ((h1.out.below hb6).mono hb6.size)
              have ch6 := (ch5).trans (hb6.mono (ch5).size)
              clear ch5
              clear hb6
              go_wp2_with fail
              refine (awake05 _).mono ?_
              rintro e w7 ⟨rfl, hb7⟩
              have hl := Lib.hid ((hl.out.below hb7).mono hb7.size)
              have hv' := Lib.hid ((hv'.out.below hb7).mono hb7.size)
              have h1 := Lib.hid ((h1.out.below hb7).mono hb7.size)
              have ch7 := (ch6).trans (hb7.mono (ch6).size)
              clear ch6
              clear hb7
              go_wp2
              go_ret
              exact ⟨rfl, ch7⟩
            · have hp : (Tr.pair td t).size ≤ 2000000 := by simp only [Tr.size]; omega
              have hrun := spec_run td t hdz l (validB_all HV.out) hp K
              rw [← HTD.out] at hrun
              have hsI : decide ((2000000 : Int) ≤ (d.size : Int) + (x.size : Int)) = false := decide_eq_false (by omega)
              have k1 := fun w => run_string_add_sum (P := Try.prog) w ⟨#[49]⟩ d (by show 1 + d.size ≤ _; omega)
              have k2 := fun w => run_string_add_sum (P := Try.prog) w (⟨#[49]⟩ ++ d) x (by rw [ByteArray.size_append]; show 1 + d.size + x.size ≤ _; omega)
              have hr : (⟨#[49]⟩ ++ d) ++ x = TS (.pair td t) := by rw [HTD.out, ← HS.out]; exact ba_ext (by simp [TS_list, Tr.enc])
              rw [hr] at k2
              obtain ⟨S2, hS2⟩ : ∃ S, TS (.pair td t) = S := ⟨_, rfl⟩
              rw [hS2] at k2
              have HP := Lib.hid hS2
              generalize ⟨#[49]⟩ ++ d = r1 at k1 k2
              clear z1 z2 hsz hr hS2
              cases hR : goF l K 0 (startS (.pair td t)) with
              | big =>
                have HR1 : Hid ((goF (specL d l) (K + 3) 0 (startS t)).run = (⟨#[]⟩, 0, 3)) := by rw [hR] at hrun; exact hrun
                have HR2 : Hid ((goF l K 0 (startS (.pair td t))).run = (⟨#[]⟩, 0, 3)) := by rw [hR]; exact rfl
                clear hrun hR
                go_enter Try.func6, Try.ntmps6
                go_wp2_with fail
                refine (cvalid_at _ HV.out hl.out).mono ?_
                rintro e w1 ⟨rfl, hb1⟩
                have hl := Lib.hid ((hl.out.below hb1).mono hb1.size)
                have ch1 := hb1
                clear hb1
                go_wp2_with fail
                refine (tvalid_at d hd _ HD.out _).mono ?_
                rintro e w2 ⟨rfl, hb2⟩
                have hl := Lib.hid ((hl.out.below hb2).mono hb2.size)
                have ch2 := (ch1).trans (hb2.mono (ch1).size)
                clear ch1
                clear hb2
                go_wp2_with fail
                refine (tvalid_at x hx _ HX.out _).mono ?_
                rintro e w3 ⟨rfl, hb3⟩
                have hl := Lib.hid ((hl.out.below hb3).mono hb3.size)
                have ch3 := (ch2).trans (hb3.mono (ch2).size)
                clear ch2
                clear hb3
                go_wp2_with fail
                refine (twin_any v l _ hl.out).mono ?_
                rintro e w4 ⟨v', rfl, hv', hb4⟩
                have hl := Lib.hid ((hl.out.below hb4).mono hb4.size)
                have ch4 := (ch3).trans (hb4.mono (ch3).size)
                clear ch3
                clear hb4
                have hv' := Lib.hid hv'
                go_wp2_with fail
                refine (specOk_at hd HV.out HD.out HF.out hv'.out).mono ?_
                rintro e w5 ⟨v1, rfl, h1, hb5⟩
                have hl := Lib.hid ((hl.out.below hb5).mono hb5.size)
                have hv' := Lib.hid ((hv'.out.below hb5).mono hb5.size)
                have ch5 := (ch4).trans (hb5.mono (ch4).size)
                clear ch4
                clear hb5
                have h1 := Lib.hid h1
                go_wp2_with fail
                refine (runOk_at (K + 3) (K + 3) _ _ _ HR1.out HF.out ht HS.out (by omega) (by omega) h1.out).mono ?_
                rintro e w6 ⟨rfl, hb6⟩
                have hl := Lib.hid ((hl.out.below hb6).mono hb6.size)
                have hv' := Lib.hid ((hv'.out.below hb6).mono hb6.size)
                have h1 := Lib.hid ((h1.out.below hb6).mono hb6.size)
                have ch6 := (ch5).trans (hb6.mono (ch5).size)
                clear ch5
                clear hb6
                go_wp2_with fail
                refine (twin_any v l _ hl.out).mono ?_
                rintro e w7 ⟨v2, rfl, hv2, hb7⟩
                have hl := Lib.hid ((hl.out.below hb7).mono hb7.size)
                have hv' := Lib.hid ((hv'.out.below hb7).mono hb7.size)
                have h1 := Lib.hid ((h1.out.below hb7).mono hb7.size)
                have ch7 := (ch6).trans (hb7.mono (ch6).size)
                clear ch6
                clear hb7
                have hv2 := Lib.hid hv2
                go_wp2_with fail
                refine (runOk_at K K _ _ _ HR2.out HV.out hp HP.out rfl (by omega) hv2.out).mono ?_
                rintro e w8 ⟨rfl, hb8⟩
                have hl := Lib.hid ((hl.out.below hb8).mono hb8.size)
                have hv' := Lib.hid ((hv'.out.below hb8).mono hb8.size)
                have h1 := Lib.hid ((h1.out.below hb8).mono hb8.size)
                have hv2 := Lib.hid ((hv2.out.below hb8).mono hb8.size)
                have ch8 := (ch7).trans (hb8.mono (ch7).size)
                clear ch7
                clear hb8
                go_wp2_with fail
                refine (awake05 _).mono ?_
                rintro e w9 ⟨rfl, hb9⟩
                have hl := Lib.hid ((hl.out.below hb9).mono hb9.size)
                have hv' := Lib.hid ((hv'.out.below hb9).mono hb9.size)
                have h1 := Lib.hid ((h1.out.below hb9).mono hb9.size)
                have hv2 := Lib.hid ((hv2.out.below hb9).mono hb9.size)
                have ch9 := (ch8).trans (hb9.mono (ch8).size)
                clear ch8
                clear hb9
                go_wp2
                go_ret
                exact ⟨rfl, ch9⟩
              | fuel s m =>
                have HR1 : Hid ((goF (specL d l) (K + 3) 0 (startS t)).run = (⟨#[]⟩, 0, 7)) := by rw [hR] at hrun; exact hrun
                have HR2 : Hid ((goF l K 0 (startS (.pair td t))).run = (⟨#[]⟩, 0, 7)) := by rw [hR]; exact rfl
                clear hrun hR
                go_enter Try.func6, Try.ntmps6
                go_wp2_with fail
                refine (cvalid_at _ HV.out hl.out).mono ?_
                rintro e w1 ⟨rfl, hb1⟩
                have hl := Lib.hid ((hl.out.below hb1).mono hb1.size)
                have ch1 := hb1
                clear hb1
                go_wp2_with fail
                refine (tvalid_at d hd _ HD.out _).mono ?_
                rintro e w2 ⟨rfl, hb2⟩
                have hl := Lib.hid ((hl.out.below hb2).mono hb2.size)
                have ch2 := (ch1).trans (hb2.mono (ch1).size)
                clear ch1
                clear hb2
                go_wp2_with fail
                refine (tvalid_at x hx _ HX.out _).mono ?_
                rintro e w3 ⟨rfl, hb3⟩
                have hl := Lib.hid ((hl.out.below hb3).mono hb3.size)
                have ch3 := (ch2).trans (hb3.mono (ch2).size)
                clear ch2
                clear hb3
                go_wp2_with fail
                refine (twin_any v l _ hl.out).mono ?_
                rintro e w4 ⟨v', rfl, hv', hb4⟩
                have hl := Lib.hid ((hl.out.below hb4).mono hb4.size)
                have ch4 := (ch3).trans (hb4.mono (ch3).size)
                clear ch3
                clear hb4
                have hv' := Lib.hid hv'
                go_wp2_with fail
                refine (specOk_at hd HV.out HD.out HF.out hv'.out).mono ?_
                rintro e w5 ⟨v1, rfl, h1, hb5⟩
                have hl := Lib.hid ((hl.out.below hb5).mono hb5.size)
                have hv' := Lib.hid ((hv'.out.below hb5).mono hb5.size)
                have ch5 := (ch4).trans (hb5.mono (ch4).size)
                clear ch4
                clear hb5
                have h1 := Lib.hid h1
                go_wp2_with fail
                refine (runOk_at (K + 3) (K + 3) _ _ _ HR1.out HF.out ht HS.out (by omega) (by omega) h1.out).mono ?_
                rintro e w6 ⟨rfl, hb6⟩
                have hl := Lib.hid ((hl.out.below hb6).mono hb6.size)
                have hv' := Lib.hid ((hv'.out.below hb6).mono hb6.size)
                have h1 := Lib.hid ((h1.out.below hb6).mono hb6.size)
                have ch6 := (ch5).trans (hb6.mono (ch5).size)
                clear ch5
                clear hb6
                go_wp2_with fail
                refine (twin_any v l _ hl.out).mono ?_
                rintro e w7 ⟨v2, rfl, hv2, hb7⟩
                have hl := Lib.hid ((hl.out.below hb7).mono hb7.size)
                have hv' := Lib.hid ((hv'.out.below hb7).mono hb7.size)
                have h1 := Lib.hid ((h1.out.below hb7).mono hb7.size)
                have ch7 := (ch6).trans (hb7.mono (ch6).size)
                clear ch6
                clear hb7
                have hv2 := Lib.hid hv2
                go_wp2_with fail
                refine (runOk_at K K _ _ _ HR2.out HV.out hp HP.out rfl (by omega) hv2.out).mono ?_
                rintro e w8 ⟨rfl, hb8⟩
                have hl := Lib.hid ((hl.out.below hb8).mono hb8.size)
                have hv' := Lib.hid ((hv'.out.below hb8).mono hb8.size)
                have h1 := Lib.hid ((h1.out.below hb8).mono hb8.size)
                have hv2 := Lib.hid ((hv2.out.below hb8).mono hb8.size)
                have ch8 := (ch7).trans (hb8.mono (ch7).size)
                clear ch7
                clear hb8
                go_wp2_with fail
                refine (awake05 _).mono ?_
                rintro e w9 ⟨rfl, hb9⟩
                have hl := Lib.hid ((hl.out.below hb9).mono hb9.size)
                have hv' := Lib.hid ((hv'.out.below hb9).mono hb9.size)
                have h1 := Lib.hid ((h1.out.below hb9).mono hb9.size)
                have hv2 := Lib.hid ((hv2.out.below hb9).mono hb9.size)
                have ch9 := (ch8).trans (hb9.mono (ch8).size)
                clear ch8
                clear hb9
                go_wp2
                go_ret
                exact ⟨rfl, ch9⟩
              | done s m =>
                obtain ⟨Y, hY⟩ : ∃ Y, TS (getR s.regs 0) = Y := ⟨_, rfl⟩
                have HR1 : Hid ((goF (specL d l) (K + 3) 0 (startS t)).run = (Y, m + 3, 0)) := by rw [hR] at hrun; rw [← hY]; exact hrun
                have HR2 : Hid ((goF l K 0 (startS (.pair td t))).run = (Y, m, 0)) := by rw [hR, ← hY]; exact rfl
                have hyy : (Y.toList == Y.toList) = true := by simp
                have hmK : (m : Int) ≤ K := by have := (goF_count hR).2.1; omega
                clear hrun hR hY
                go_enter Try.func6, Try.ntmps6
                go_wp2_with fail
                refine (cvalid_at _ HV.out hl.out).mono ?_
                rintro e w1 ⟨rfl, hb1⟩
                have hl := Lib.hid ((hl.out.below hb1).mono hb1.size)
                have ch1 := hb1
                clear hb1
                go_wp2_with fail
                refine (tvalid_at d hd _ HD.out _).mono ?_
                rintro e w2 ⟨rfl, hb2⟩
                have hl := Lib.hid ((hl.out.below hb2).mono hb2.size)
                have ch2 := (ch1).trans (hb2.mono (ch1).size)
                clear ch1
                clear hb2
                go_wp2_with fail
                refine (tvalid_at x hx _ HX.out _).mono ?_
                rintro e w3 ⟨rfl, hb3⟩
                have hl := Lib.hid ((hl.out.below hb3).mono hb3.size)
                have ch3 := (ch2).trans (hb3.mono (ch2).size)
                clear ch2
                clear hb3
                go_wp2_with fail
                refine (twin_any v l _ hl.out).mono ?_
                rintro e w4 ⟨v', rfl, hv', hb4⟩
                have hl := Lib.hid ((hl.out.below hb4).mono hb4.size)
                have ch4 := (ch3).trans (hb4.mono (ch3).size)
                clear ch3
                clear hb4
                have hv' := Lib.hid hv'
                go_wp2_with fail
                refine (specOk_at hd HV.out HD.out HF.out hv'.out).mono ?_
                rintro e w5 ⟨v1, rfl, h1, hb5⟩
                have hl := Lib.hid ((hl.out.below hb5).mono hb5.size)
                have hv' := Lib.hid ((hv'.out.below hb5).mono hb5.size)
                have ch5 := (ch4).trans (hb5.mono (ch4).size)
                clear ch4
                clear hb5
                have h1 := Lib.hid h1
                go_wp2_with fail
                refine (runOk_at (K + 3) (K + 3) _ _ _ HR1.out HF.out ht HS.out (by omega) (by omega) h1.out).mono ?_
                rintro e w6 ⟨rfl, hb6⟩
                have hl := Lib.hid ((hl.out.below hb6).mono hb6.size)
                have hv' := Lib.hid ((hv'.out.below hb6).mono hb6.size)
                have h1 := Lib.hid ((h1.out.below hb6).mono hb6.size)
                have ch6 := (ch5).trans (hb6.mono (ch5).size)
                clear ch5
                clear hb6
                go_wp2_with fail
                refine (twin_any v l _ hl.out).mono ?_
                rintro e w7 ⟨v2, rfl, hv2, hb7⟩
                have hl := Lib.hid ((hl.out.below hb7).mono hb7.size)
                have hv' := Lib.hid ((hv'.out.below hb7).mono hb7.size)
                have h1 := Lib.hid ((h1.out.below hb7).mono hb7.size)
                have ch7 := (ch6).trans (hb7.mono (ch6).size)
                clear ch6
                clear hb7
                have hv2 := Lib.hid hv2
                go_wp2_with fail
                refine (runOk_at K K _ _ _ HR2.out HV.out hp HP.out rfl (by omega) hv2.out).mono ?_
                rintro e w8 ⟨rfl, hb8⟩
                have hl := Lib.hid ((hl.out.below hb8).mono hb8.size)
                have hv' := Lib.hid ((hv'.out.below hb8).mono hb8.size)
                have h1 := Lib.hid ((h1.out.below hb8).mono hb8.size)
                have hv2 := Lib.hid ((hv2.out.below hb8).mono hb8.size)
                have ch8 := (ch7).trans (hb8.mono (ch7).size)
                clear ch7
                clear hb8
                go_wp2_with fail
                refine (awake05 _).mono ?_
                rintro e w9 ⟨rfl, hb9⟩
                have hl := Lib.hid ((hl.out.below hb9).mono hb9.size)
                have hv' := Lib.hid ((hv'.out.below hb9).mono hb9.size)
                have h1 := Lib.hid ((h1.out.below hb9).mono hb9.size)
                have hv2 := Lib.hid ((hv2.out.below hb9).mono hb9.size)
                have ch9 := (ch8).trans (hb9.mono (ch8).size)
                clear ch8
                clear hb9
                go_wp2
                go_ret
                exact ⟨rfl, ch9⟩

end Go.Proofs.Ytieocihlkpipmaa


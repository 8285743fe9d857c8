/- Plain: programs that are supplied with a tree. And the walks of spec.Spec, narcissusref05.Spec and narcissusref04.Fits. -/
import Derived.Test.YtdjbcmfjlfkcjaaMB3
import Derived.Test.YtdjbcmfjlfkcjaaMB2
namespace Go.Proofs.Ytdjbcmfjlfkcjaa
open Go.RowKit

def specH (d : ByteArray) : List Ins := [⟨0, 1, 0, 0, d⟩, ⟨2, 0, 1, 0, ⟨#[]⟩⟩, ⟨0, 1, 0, 0, ⟨#[48]⟩⟩]
def specL (d : ByteArray) (l : List Ins) : List Ins := specH d ++ l
theorem specL_trees (d : ByteArray) (l : List Ins) : trees (specL d l) = d.size + 1 + trees l := by
  unfold specL; rw [trees_append]; simp [specH, trees]; rfl
theorem specL_length (d : ByteArray) (l : List Ins) : (specL d l).length = l.length + 3 := by simp [specL, specH]
theorem isTree_48 : isTree ⟨#[48]⟩ = true := by decide +kernel
theorem specL_right (d : ByteArray) (l : List Ins) (hd : isTree d = true) (hl : rightAll l = true) : rightAll (specL d l) = true := by
  refine rightAll_append ?_ (fun i x hx => rightAll_at hl hx (by simp [specH]; omega))
  intro i x hx
  match i, hx with
  | 0, hx => simp [specH] at hx; subst hx; unfold rightB; simp [regB, hd]
  | 1, hx => simp [specH] at hx; subst hx; unfold rightB; simp [regB]
  | 2, hx => simp [specH] at hx; subst hx; unfold rightB; simp [regB, isTree_48]
  | i + 3, hx => simp [specH] at hx
theorem specL_valid (d : ByteArray) (l : List Ins) (hd : isTree d = true) (hl : validB l = true) : validB (specL d l) = fitsP (specL d l) := validB_fits (specL_right d l hd (validB_all hl))

theorem goF_shift (l : List Ins) (c : Nat) : ∀ (f n : Nat) (s : St), goF l f (n + c) s = match goF l f n s with
    | .done s' m => .done s' (m + c)
    | .fuel s' m => .fuel s' (m + c)
    | .big => .big := by
  intro f
  induction f with
  | zero =>
    intro n s
    by_cases hp : s.pos = l.length
    · rw [goF_done hp, goF_done hp]
    · rw [goF_zero hp, goF_zero hp]
  | succ f ih =>
    intro n s
    by_cases hp : s.pos = l.length
    · rw [goF_done hp, goF_done hp]
    · cases hs : stepP l s with
      | none => rw [goF_big hp hs, goF_big hp hs]
      | some s1 => rw [goF_step hp hs, goF_step hp hs, show n + c + 1 = n + 1 + c by omega]; exact ih _ _
theorem stepX_set {x : Ins} {s : St} (h : x.op = 0) : stepX x s = some ⟨s.pos + 1, setR s.regs x.a (toTr x.tree)⟩ := by unfold stepX; rw [if_pos h]
theorem toTr_48 : toTr ⟨#[48]⟩ = .nil := toTr_TS .nil (by decide)
theorem spec_1 (d x : Tr) (hd : d.size ≤ 2000000) (l : List Ins) : stepP (specL (TS d) l) (startS x) = some ⟨1, x :: d :: List.replicate 30 .nil⟩ := by
  have h := stepX_set (x := ⟨0, 1, 0, 0, TS d⟩) (s := startS x) rfl
  rw [toTr_TS d hd] at h
  exact h
theorem spec_2 (d x : Tr) (l : List Ins) (h : (Tr.pair d x).size ≤ 2000000) : stepP (specL (TS d) l) ⟨1, x :: d :: List.replicate 30 .nil⟩ = some ⟨2, .pair d x :: d :: List.replicate 30 .nil⟩ :=
  stepX_cons (x := ⟨2, 0, 1, 0, ⟨#[]⟩⟩) (s := ⟨1, x :: d :: List.replicate 30 .nil⟩) rfl h
theorem spec_2big (d x : Tr) (l : List Ins) (h : 2000000 < (Tr.pair d x).size) : stepP (specL (TS d) l) ⟨1, x :: d :: List.replicate 30 .nil⟩ = none :=
  stepX_big (x := ⟨2, 0, 1, 0, ⟨#[]⟩⟩) (s := ⟨1, x :: d :: List.replicate 30 .nil⟩) rfl h
theorem spec_3 (d y : Tr) (l : List Ins) : stepP (specL (TS d) l) ⟨2, y :: d :: List.replicate 30 .nil⟩ = some ⟨3, (startS y).regs⟩ := by
  have h := stepX_set (x := ⟨0, 1, 0, 0, ⟨#[48]⟩⟩) (s := ⟨2, y :: d :: List.replicate 30 .nil⟩) rfl
  rw [toTr_48] at h
  exact h
theorem spec_big (d x : Tr) (hd : d.size ≤ 2000000) (l : List Ins) (h : 2000000 < (Tr.pair d x).size) (f : Nat) : goF (specL (TS d) l) (f + 3) 0 (startS x) = .big := by
  have hn : (specL (TS d) l).length = l.length + 3 := specL_length _ _
  rw [show f + 3 = (f + 2) + 1 by omega, goF_step (by show 0 ≠ _; omega) (spec_1 d x hd l), show f + 2 = (f + 1) + 1 by omega, goF_big (by show 1 ≠ _; omega) (spec_2big d x l h)]
theorem spec_run (d x : Tr) (hd : d.size ≤ 2000000) (l : List Ins) (hl : rightAll l = true) (h : (Tr.pair d x).size ≤ 2000000) (f : Nat) :
    (goF (specL (TS d) l) (f + 3) 0 (startS x)).run = match goF l f 0 (startS (.pair d x)) with
      | .done s m => (TS (getR s.regs 0), m + 3, 0)
      | .fuel _ _ => (⟨#[]⟩, 0, 7)
      | .big => (⟨#[]⟩, 0, 3) := by
  have hn : (specL (TS d) l).length = l.length + 3 := specL_length _ _
  rw [show f + 3 = (f + 2) + 1 by omega, goF_step (by show 0 ≠ _; omega) (spec_1 d x hd l), show f + 2 = (f + 1) + 1 by omega, goF_step (by show 1 ≠ _; omega) (spec_2 d x l h), goF_step (by show 2 ≠ _; omega) (spec_3 d _ l)]
  have hs : Seg (specL (TS d) l) 3 l := Seg.right (specH (TS d)) l
  obtain ⟨r1, r2, r3⟩ := hs.run hl (by omega) f 3 (startS (.pair d x)) (Good.start _ _ h)
  have hsh := goF_shift l 3 f 0 (startS (.pair d x))
  cases hR : goF l f 0 (startS (.pair d x)) with
  | done s m =>
    rw [hR] at hsh
    obtain ⟨_, _, e⟩ := r1 s (m + 3) hsh
    have : (goF (specL (TS d) l) f 3 ⟨3, (startS (.pair d x)).regs⟩) = .done ⟨3 + l.length, s.regs⟩ (m + 3) := by
      refine e.trans (goF_done ?_)
      show 3 + l.length = _
      omega
    show (goF (specL (TS d) l) f 3 ⟨3, (startS (.pair d x)).regs⟩).run = _
    rw [this]; rfl
  | fuel s m =>
    rw [hR] at hsh
    show (goF (specL (TS d) l) f 3 ⟨3, (startS (.pair d x)).regs⟩).run = _
    have := r2 s (m + 3) hsh
    exact (congrArg Res.run this).trans rfl
  | big =>
    rw [hR] at hsh
    exact (congrArg Res.run (r3 hsh)).trans rfl

/-! ### Walks -/
theorem specH_wf (d : ByteArray) (hd : d.size ≤ 140737488355328) : ∀ x ∈ specH d, x.wf := by
  intro x hx
  simp [specH] at hx
  rcases hx with rfl | rfl | rfl
  · exact wf_lit _ _ _ _ _ (by unfold i64; decide) (by unfold i64; decide) (by unfold i64; decide) (by unfold i64; decide) hd
  · exact wf_lit _ _ _ _ _ (by unfold i64; decide) (by unfold i64; decide) (by unfold i64; decide) (by unfold i64; decide) (by decide)
  · exact wf_lit _ _ _ _ _ (by unfold i64; decide) (by unfold i64; decide) (by unfold i64; decide) (by unfold i64; decide) (by decide)
theorem specH_own (w : World) (d : ByteArray) : (w.alloc (.cells #[.int .i64 0, .int .i64 1, .int .i64 0, .int .i64 0, .string d, .int .i64 2, .int .i64 0, .int .i64 1, .int .i64 0, .string ⟨#[]⟩, .int .i64 0, .int .i64 1, .int .i64 0, .int .i64 0, .string ⟨#[48]⟩] 75)).ownsRow w.heap.size 75 5 (.slice (some ⟨w.heap.size, 0, none⟩) 3 3) 3 (inscells (specH d)) :=
  World.ownsRow_lit w (inscells (specH d)).toArray 3 (Nat.le_refl _) (by decide) rfl

/-- What Spec hands back where it may. -/
def SpecOk (w : World) (d : ByteArray) (l : List Ins) (e : Ending) (w' : World) : Prop := ∃ v', e = .returned (.tuple #[v', .int .i64 0]) ∧ InsRow w' w'.heap.size v' (specL d l) ∧ Below w.heap.size w w'
def SpecBad (w : World) (er : Int) (e : Ending) (w' : World) : Prop := e = .returned (.tuple #[.slice none 0 0, .int .i64 er]) ∧ Below w.heap.size w w'

set_option maxHeartbeats 2000000 in
theorem spec_any (v : Value) (l : List Ins) (d : ByteArray) (hds : d.size ≤ 140737488355328) (w : World) (hl : InsRow w w.heap.size v l) (hv : validB l = true) (hd : isTree d = true) :
    Calls Try.prog 105 #[v, .string d] w (fun e w' => if validB (specL d l) = true then SpecOk w d l e w' else SpecBad w 3 e w') := by
  have kv := codeValidP_at v l w hl _ hv
  have kt := treeValid_at d hds _ hd
  have hwf : ∀ x ∈ specL d l, x.wf := fun x hx => by rcases List.mem_append.1 hx with h | h; exact specH_wf d hds x h; exact hl.1 x h
  have hn4 := validB_len hv
  have hcells : inscells (specL d l) = inscells (specH d) ++ inscells l := by simp [specL, inscells]
  have hlen := specL_length d l
  have HC := Lib.hid hcells
  have HWF := Lib.hid hwf
  have HLEN := Lib.hid hlen
  have hl0 := hl
  obtain ⟨n, hn'⟩ : ∃ n, l.length = n := ⟨_, rfl⟩
  obtain ⟨ao, cap, rfl⟩ := hl.len
  rw [hn'] at hl0 kv hn4 ⊢
  have HN := Lib.hid hn'
  have hone := inscells_one l
  have HONE := Lib.hid hone
  clear hv hd hwf hcells hlen hl hn' hone
  obtain ⟨bb, hbb⟩ : ∃ b, validB (specL d l) = b := ⟨_, rfl⟩
  rw [hbb]
  have HBB := Lib.hid hbb
  clear hbb
  go_enter Try.func105, Try.ntmps105
  go_wp2_with fail
  refine kv.mono ?_
  rintro e w1 ⟨rfl, k1⟩
  go_wp2_with fail
  refine (kt _).mono ?_
  rintro e w2 ⟨rfl, k2⟩
  have hb2 := k1.trans (k2.mono k1.size)
  have hl2 := (hl0.below hb2).mono hb2.size
  have hown := specH_own w2 d
  have hb3 := hb2.alloc hb2.size (.cells #[.int .i64 0, .int .i64 1, .int .i64 0, .int .i64 0, .string d, .int .i64 2, .int .i64 0, .int .i64 1, .int .i64 0, .string ⟨#[]⟩, .int .i64 0, .int .i64 1, .int .i64 0, .int .i64 0, .string ⟨#[48]⟩] 75)
  have hs2 : Src (w2.alloc (.cells #[.int .i64 0, .int .i64 1, .int .i64 0, .int .i64 0, .string d, .int .i64 2, .int .i64 0, .int .i64 1, .int .i64 0, .string ⟨#[]⟩, .int .i64 0, .int .i64 1, .int .i64 0, .int .i64 0, .string ⟨#[48]⟩] 75)) (.slice ao n cap) n 5 (inscells l) := by
    have := (hl0.below hb3).src
    rwa [HN.out] at this
  have hsz := hb2.size
  clear kv kt k1 k2 hb2 hl2 hl0
  go_wp2_with (at_builtin; refine app_src el_ins (vx := .slice ao n cap) rfl _ _ rfl rfl hown rfl hs2 HONE.out ?c2 ?c3 (by simp) hb3 hsz ?_)
  case c2 => omega
  case c3 => unfold maxLen; omega
  intro v' w3 hown3 hb4 hg
  have hrow : InsRow w3 w3.heap.size v' (specL d l) := InsRow.of_own (n := 3 + n) (by rw [HC.out]; exact hown3) HWF.out (by rw [HLEN.out, HN.out]; omega)
  have kv2 := codeValidP_at v' _ w3 hrow _ HBB.out
  have HROW := Lib.hid hrow
  obtain ⟨a2, c2, rfl⟩ := own_len hown3
  clear hown hs2 hb3 hown3 hg hrow
  cases bb with
  | true =>
    go_wp2_with fail
    refine kv2.mono ?_
    rintro e w4 ⟨rfl, k4⟩
    clear kv2
    go_wp2
    go_ret2
    exact ⟨_, rfl, (HROW.out.below k4).mono k4.size, hb4.trans (k4.mono hb4.size)⟩
  | false =>
    go_wp2_with fail
    refine kv2.mono ?_
    rintro e w4 ⟨rfl, k4⟩
    clear kv2
    go_wp2
    go_ret2
    exact ⟨rfl, hb4.trans (k4.mono hb4.size)⟩

end Go.Proofs.Ytdjbcmfjlfkcjaa


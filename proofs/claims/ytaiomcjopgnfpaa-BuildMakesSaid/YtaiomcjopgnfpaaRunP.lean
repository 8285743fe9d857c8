/- Plain: runs of programs. And a machine in memory. -/
import Derived.Test.YtaiomcjopgnfpaaNode
import Derived.Test.YtaiomcjopgnfpaaInsP
namespace Go.Proofs.Ytaiomcjopgnfpaa
open Go.RowKit

/-- The tree of a string; none: nil. -/
def toTr (s : ByteArray) : Tr := if isTree s then (match pf s.data.toList with | some [t] => t | _ => .nil) else .nil
theorem toTr_TS (t : Tr) (h : t.size ≤ 2000000) : toTr (TS t) = t := by
  unfold toTr; rw [isTree_TS t h, if_pos rfl, TS_list, pf_one]
theorem toTr_bad {s : ByteArray} (h : isTree s = false) : toTr s = .nil := by unfold toTr; rw [h]; rfl
theorem toTr_size (s : ByteArray) : (toTr s).size ≤ 2000000 := by
  cases h : isTree s with
  | false => rw [toTr_bad h]; decide
  | true => obtain ⟨t, rfl, ht⟩ := isTree_get h; rw [toTr_TS t ht]; exact ht
theorem TS_toTr {s : ByteArray} (h : isTree s = true) : TS (toTr s) = s := by obtain ⟨t, rfl, ht⟩ := isTree_get h; rw [toTr_TS t ht]
theorem toTr_empty {s : ByteArray} (h : s.toList.isEmpty = true) : toTr s = .nil := by
  refine toTr_bad ?_
  rw [Bool.eq_false_iff]; intro ht
  obtain ⟨t, rfl, _⟩ := isTree_get ht
  rw [Lib.toList_data, TS_list] at h
  cases t <;> simp [Tr.enc] at h

/-- A place and the contents of the registers. -/
structure St where
  pos : Nat
  regs : List Tr
  deriving DecidableEq
def getR (rs : List Tr) (a : Int) : Tr := rs[a.toNat]?.getD .nil
def setR (rs : List Tr) (a : Int) (t : Tr) : List Tr := rs.set a.toNat t
/-- A step of an instruction; none: it is too large. -/
def stepX (x : Ins) (s : St) : Option St :=
  if x.op = 0 then some ⟨s.pos + 1, setR s.regs x.a (toTr x.tree)⟩
  else if x.op = 1 then some ⟨s.pos + 1, setR s.regs x.a (getR s.regs x.b)⟩
  else if x.op = 2 then (if (Tr.pair (getR s.regs x.b) (getR s.regs x.c)).size ≤ 2000000 then some ⟨s.pos + 1, setR s.regs x.a (.pair (getR s.regs x.b) (getR s.regs x.c))⟩ else none)
  else if x.op = 3 then some ⟨s.pos + 1, setR s.regs x.a (getR s.regs x.b).hd⟩
  else if x.op = 4 then some ⟨s.pos + 1, setR s.regs x.a (getR s.regs x.b).tl⟩
  else if getR s.regs x.a = .nil then some ⟨s.pos + 1, s.regs⟩ else some ⟨(s.pos + x.b).toNat, s.regs⟩
/-- A step of a program in a state in which it has not ended. -/
def stepP (l : List Ins) (s : St) : Option St := match l[s.pos]? with | some x => stepX x s | none => none
/-- A state of a program. -/
def Good (n : Nat) (s : St) : Prop := s.pos ≤ n ∧ s.regs.length = 32 ∧ ∀ t ∈ s.regs, t.size ≤ 2000000
def startS (t : Tr) : St := ⟨0, t :: List.replicate 31 .nil⟩
theorem Good.start (n : Nat) (t : Tr) (ht : t.size ≤ 2000000) : Good n (startS t) := by
  refine ⟨Nat.zero_le _, rfl, fun u hu => ?_⟩
  rcases List.mem_cons.1 hu with rfl | h
  · exact ht
  · rw [(List.mem_replicate.1 h).2]; decide
theorem getR_size {rs : List Tr} (h : ∀ t ∈ rs, t.size ≤ 2000000) (a : Int) : (getR rs a).size ≤ 2000000 := by
  unfold getR
  cases e : rs[a.toNat]? with
  | none => decide
  | some t => exact h t (List.mem_of_getElem? e)
theorem hd_size (t : Tr) : t.hd.size ≤ t.size := by cases t <;> simp [Tr.hd, Tr.size]; omega
theorem tl_size (t : Tr) : t.tl.size ≤ t.size := by cases t <;> simp [Tr.tl, Tr.size]
theorem Good.set {n : Nat} {s : St} (h : Good n s) (hp : s.pos < n) (a : Int) (t : Tr) (ht : t.size ≤ 2000000) : Good n ⟨s.pos + 1, setR s.regs a t⟩ := by
  refine ⟨hp, by simp [setR, h.2.1], fun u hu => ?_⟩
  rcases List.mem_or_eq_of_mem_set hu with h1 | rfl
  · exact h.2.2 u h1
  · exact ht
theorem Good.step {l : List Ins} {s s' : St} (hv : rightAll l = true) (h : Good l.length s) (hs : stepP l s = some s') : Good l.length s' := by
  unfold stepP at hs
  cases hx : l[s.pos]? with
  | none => rw [hx] at hs; cases hs
  | some x =>
    rw [hx] at hs
    simp only at hs
    have hp : s.pos < l.length := (List.getElem?_eq_some_iff.1 hx).1
    have hr := rightAll_get hv hx
    unfold stepX at hs
    split at hs
    · cases hs; exact h.set hp _ _ (toTr_size _)
    · split at hs
      · cases hs; exact h.set hp _ _ (getR_size h.2.2 _)
      · split at hs
        · split at hs
          · cases hs; exact h.set hp _ _ (by assumption)
          · cases hs
        · split at hs
          · cases hs; exact h.set hp _ _ (Nat.le_trans (hd_size _) (getR_size h.2.2 _))
          · split at hs
            · cases hs; exact h.set hp _ _ (Nat.le_trans (tl_size _) (getR_size h.2.2 _))
            · split at hs
              · cases hs; exact ⟨hp, h.2⟩
              · cases hs
                refine ⟨?_, h.2⟩
                unfold rightB at hr
                rename_i h0 h1 h2 h3 h4 h5
                rw [if_neg h0, if_neg (by omega), if_neg h2] at hr
                split at hr
                · simp only [Bool.and_eq_true, decide_eq_true_eq] at hr
                  show ((s.pos : Int) + x.b).toNat ≤ l.length
                  omega
                · simp at hr

theorem Nodes.set {T : Nat} {w : World} : ∀ {ts : List Tr} {vs : List Value} (j : Nat) {t : Tr} {v : Value}, Nodes T w ts vs → NodeP T w t v → Nodes T w (ts.set j t) (vs.set j v) := by
  intro ts
  induction ts with
  | nil => intro vs j t v h _; rw [h.nil_iff]; exact trivial
  | cons a ts ih =>
    intro vs j t v h hn
    obtain ⟨u, us, rfl, h1, h2⟩ := h.uncons
    cases j with
    | zero => exact ⟨hn, h2⟩
    | succ j => exact ⟨h1, ih j h2 hn⟩
theorem Nodes.get {T : Nat} {w : World} : ∀ {ts : List Tr} {vs : List Value} {j : Nat} {t : Tr}, Nodes T w ts vs → ts[j]? = some t → ∃ v, vs[j]? = some v ∧ NodeP T w t v := by
  intro ts
  induction ts with
  | nil => intro vs j t _ h; simp at h
  | cons a ts ih =>
    intro vs j t h hj
    obtain ⟨u, us, rfl, h1, h2⟩ := h.uncons
    cases j with
    | zero => simp at hj; subst hj; exact ⟨u, rfl, h1⟩
    | succ j =>
      obtain ⟨v, hv, hn⟩ := ih (j := j) h2 (by simpa using hj)
      exact ⟨v, by simpa using hv, hn⟩
theorem Nodes.snoc {T : Nat} {w : World} : ∀ {ts : List Tr} {vs : List Value} {t : Tr} {v : Value}, Nodes T w ts vs → NodeP T w t v → Nodes T w (ts ++ [t]) (vs ++ [v]) := by
  intro ts
  induction ts with
  | nil => intro vs t v h hn; rw [h.nil_iff]; exact ⟨hn, trivial⟩
  | cons a ts ih =>
    intro vs t v h hn
    obtain ⟨u, us, rfl, h1, h2⟩ := h.uncons
    exact ⟨h1, ih h2 hn⟩
theorem Nodes.nils {T : Nat} {w : World} (n : Nat) : Nodes T w (List.replicate n .nil) (List.replicate n (.pointer none)) := by
  induction n with
  | zero => exact trivial
  | succ n ih => exact ⟨rfl, ih⟩
theorem own_kept {e base sz n : Nat} {w w' : World} {v : Value} {xs : List Value} (h : w.ownsRow base e sz v n xs) (hk : Kept e w w') : w'.ownsRow base e sz v n xs := by
  refine ⟨h.1, ?_⟩
  rcases h.2 with h | ⟨g, cap, cur, hv, hbb, hgg, r⟩
  · exact .inl h
  · exact .inr ⟨g, cap, cur, hv, hbb, hk _ _ hgg, r⟩

/-- The cells of a machine. -/
def mcells (pv sv : Value) (ps : List Value) (pos : Nat) : Array Value := (pv :: sv :: (ps ++ [.int .i64 pos])).toArray
/-- A machine in memory. -/
structure MachP (w : World) (B g : Nat) (l : List Ins) (s : St) (pv sv : Value) (ps : List Value) : Prop where
  blk : w.heap[g]? = some (.cells (mcells pv sv ps s.pos) 103 (0, 0))
  regs : Nodes 135 w s.regs ps
  prog : InsRow w B pv l
  le : B ≤ g
  sets : ∃ xs, Nodes 135 w (l.map fun x => toTr x.tree) xs ∧ w.ownsRow (g + 1) 99 1 sv l.length xs
section
variable {w w' : World} {B g : Nat} {l : List Ins} {s : St} {pv sv : Value} {ps : List Value}
theorem MachP.lt (h : MachP w B g l s pv sv ps) : g < w.heap.size := (Array.getElem?_eq_some_iff.1 h.blk).1
theorem MachP.kept (h : MachP w B g l s pv sv ps) (hb : Below w.heap.size w w') : MachP w' B g l s pv sv ps := by
  obtain ⟨xs, h1, h2⟩ := h.sets
  have hlt := h.lt
  have hle := h.le
  exact ⟨(hb.block g hlt).trans h.blk, h.regs.kept (Kept.below hb), h.prog.below (hb.mono (by omega)), h.le, xs, h1.kept (Kept.below hb), own_below h2 hb⟩
theorem MachP.cells (h : MachP w B g l s pv sv ps) (h32 : s.regs.length = 32) : w.cell? ⟨g, 0, none⟩ = some pv ∧ w.cell? ⟨g, 1, none⟩ = some sv ∧ w.cell? ⟨g, 34, none⟩ = some (.int .i64 s.pos) ∧
    (∀ j t, s.regs[j]? = some t → ∃ q, w.cell? ⟨g, 2 + j, none⟩ = some (.pointer q) ∧ NodeP 135 w t (.pointer q)) ∧ ∀ j, w.frozen? ⟨g, j, none⟩ = false := by
  obtain ⟨hc, hf⟩ := block_cells h.blk
  have hl := h.regs.length
  refine ⟨by rw [hc]; rfl, by rw [hc]; rfl, ?_, ?_, hf⟩
  · rw [hc]
    unfold mcells
    rw [List.getElem?_toArray]
    simp only [List.getElem?_cons_succ]
    rw [List.getElem?_append_right (by omega), hl, h32]; rfl
  · intro j t hj
    obtain ⟨v, hv, hn⟩ := h.regs.get hj
    obtain ⟨q, rfl⟩ := hn.ptr
    refine ⟨q, ?_, hn⟩
    rw [hc]
    unfold mcells
    rw [List.getElem?_toArray, show 2 + j = j + 1 + 1 by omega]
    simp only [List.getElem?_cons_succ]
    have hlt := (List.getElem?_eq_some_iff.1 hv).1
    rw [List.getElem?_append_left hlt, hv]
theorem set_blk {T : Nat} {cs : Array Value} (h : w.heap[g]? = some (.cells cs T (0, 0))) (j : Nat) (u : Value) : (w.setCell ⟨g, j, none⟩ u).heap[g]? = some (.cells (cs.setIfInBounds j u) T (0, 0)) := by
  show (w.heap.modify g _)[g]? = _
  rw [Array.getElem?_modify, if_pos rfl, h]; rfl
theorem MachP.setReg (h : MachP w B g l s pv sv ps) (j : Nat) (hj : j < s.regs.length) {t : Tr} {v : Value} (hn : NodeP 135 w t v) : MachP (w.setCell ⟨g, 2 + j, none⟩ v) B g l ⟨s.pos, s.regs.set j t⟩ pv sv (ps.set j v) := by
  obtain ⟨xs, h1, h2⟩ := h.sets
  have hk : Kept 135 w (w.setCell ⟨g, 2 + j, none⟩ v) := (Kept.refl _ w).setCell h.blk (by decide) _
  have hk2 : Kept 99 w (w.setCell ⟨g, 2 + j, none⟩ v) := (Kept.refl _ w).setCell h.blk (by decide) _
  refine ⟨?_, (h.regs.set j hn).kept hk, h.prog.below ((Below.refl B w).setCell (p := ⟨g, 2 + j, none⟩) h.le _), h.le, xs, h1.kept hk, own_kept h2 hk2⟩
  rw [set_blk h.blk]
  have hl := h.regs.length
  have e : (mcells pv sv ps s.pos).setIfInBounds (2 + j) v = mcells pv sv (ps.set j v) s.pos := by
    unfold mcells
    rw [List.setIfInBounds_toArray, show 2 + j = j + 1 + 1 by omega, List.set_cons_succ, List.set_cons_succ, List.set_append_left _ _ (by omega)]
  rw [e]
theorem MachP.setPos (h : MachP w B g l s pv sv ps) (h32 : s.regs.length = 32) (p : Nat) : MachP (w.setCell ⟨g, 34, none⟩ (.int .i64 p)) B g l ⟨p, s.regs⟩ pv sv ps := by
  obtain ⟨xs, h1, h2⟩ := h.sets
  have hk : Kept 135 w (w.setCell ⟨g, 34, none⟩ (.int .i64 p)) := (Kept.refl _ w).setCell h.blk (by decide) _
  have hk2 : Kept 99 w (w.setCell ⟨g, 34, none⟩ (.int .i64 p)) := (Kept.refl _ w).setCell h.blk (by decide) _
  refine ⟨?_, h.regs.kept hk, h.prog.below ((Below.refl B w).setCell (p := ⟨g, 34, none⟩) h.le _), h.le, xs, h1.kept hk, own_kept h2 hk2⟩
  rw [set_blk h.blk]
  have hl := h.regs.length
  have e : (mcells pv sv ps s.pos).setIfInBounds 34 (.int .i64 p) = mcells pv sv ps p := by
    unfold mcells
    rw [List.setIfInBounds_toArray, List.set_cons_succ, List.set_cons_succ, List.set_append_right _ _ (by omega), hl, h32]; rfl
  rw [e]
end

end Go.Proofs.Ytaiomcjopgnfpaa

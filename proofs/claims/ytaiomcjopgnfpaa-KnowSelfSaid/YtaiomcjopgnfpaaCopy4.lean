/- law04's copied and alike: copies of a list of programs. -/
import Derived.Test.YtaiomcjopgnfpaaBuild9
namespace Go.Proofs.Ytaiomcjopgnfpaa
open Go.RowKit

theorem el_progs : ElemT Try.prog 22 25 (.slice none 0 0) 1 24 := ⟨Try.underlying22, by kernel_rfl, rfl, by decide⟩

set_option maxHeartbeats 1000000 in
theorem twin_own (v : Value) (l : List Ins) (w : World) (hl : InsRow w w.heap.size v l) :
    Calls Try.prog 33 #[v] w fun e w' => ∃ a c, e = .returned (.slice a l.length c) ∧ OwnI w' w.heap.size (.slice a l.length c) l ∧ Below w.heap.size w w' := by
  have hn := hl.2.1
  have hwf := hl.1
  have hs := hl.src
  obtain ⟨n, hn'⟩ : ∃ n, l.length = n := ⟨_, rfl⟩
  rw [hn'] at hn hs
  have HN := Lib.hid hn'; clear hn'
  have HW := Lib.hid hwf; clear hwf
  obtain ⟨ao, cap, rfl⟩ := hl.len
  rw [HN.out] at hl hs ⊢
  have hown : (w.alloc (.cells #[] 52)).ownsRow w.heap.size 52 5 (.slice (some ⟨w.heap.size, 0, none⟩) 0 0) 0 [] := World.ownsRow_lit w #[] 0 (Nat.le_refl _) (by decide) rfl
  have hs2 : Src (w.alloc (.cells #[] 52)) (.slice ao n cap) n 5 (inscells l) := by
    have := (hl.below ((Below.refl _ w).alloc (Nat.le_refl _) (.cells #[] 52))).src
    rwa [HN.out] at this
  have hb : Below w.heap.size w (w.alloc (.cells #[] 52)) := (Below.refl _ _).alloc (Nat.le_refl _) _
  go_enter Try.func33, Try.ntmps33
  go_wp2_with (at_builtin; refine app_src el_ins (vx := .slice ao n cap) rfl _ _ rfl rfl hown rfl hs2 (inscells_one l) ?c2 ?c3 (by simp) hb (Nat.le_refl _) ?_)
  case c2 => omega
  case c3 => unfold maxLen; omega
  intro v' w' hown' hb' hg
  have hown2 : OwnI w' w.heap.size v' l := ⟨by rw [HN.out]; simpa using hown', HW.out⟩
  obtain ⟨a2, c2, rfl⟩ := own_len hown'
  clear hown hs hs2 hb hown' hg
  go_wp2
  refine bodyPost_ret (v := .slice a2 n c2) (by simp [results, Try.results33, go_sem]) rfl ?_
  exact ⟨_, _, rfl, hown2, hb'⟩

/-- A row of one's own of programs, each in a block besides. -/
def OwnP (w : World) (B : Nat) (v : Value) (ls : List (List Ins)) : Prop :=
  ∃ us, w.ownsRow B 25 1 v ls.length us ∧ ∀ (j : Nat) (u : Value) (l : List Ins), us[j]? = some u → ls[j]? = some l → InsRow w w.heap.size u l ∧ ∀ g, u.ownBlock = some g → g < w.heap.size ∧ v.ownBlock ≠ some g
theorem OwnP.nil (w : World) (B : Nat) : OwnP w B (.slice none 0 0) [] := ⟨[], World.ownsRow_nil _ _ _ _, fun j u l h => by simp at h⟩
theorem OwnP.lt {w : World} {B : Nat} {v : Value} {ls : List (List Ins)} (h : OwnP w B v ls) {g : Nat} (hg : v.ownBlock = some g) : B ≤ g ∧ g < w.heap.size := by
  obtain ⟨us, h1, _⟩ := h
  rcases h1.2 with ⟨rfl, _⟩ | ⟨k, cap, cur, rfl, hb, hc, _⟩
  · simp [Value.ownBlock] at hg
  · simp only [Value.ownBlock, Option.some.injEq] at hg; subst hg; exact ⟨hb, (Array.getElem?_eq_some_iff.1 hc).1⟩
theorem OwnP.below {w w' : World} {B : Nat} {v : Value} {ls : List (List Ins)} (h : OwnP w B v ls) (hb : Below w.heap.size w w') : OwnP w' B v ls := by
  obtain ⟨us, h1, h2⟩ := h
  refine ⟨us, own_below h1 hb, fun j u l hu hl => ?_⟩
  obtain ⟨h3, h4⟩ := h2 j u l hu hl
  exact ⟨(h3.below hb).mono hb.size, fun g hg => ⟨Nat.lt_of_lt_of_le (h4 g hg).1 hb.size, (h4 g hg).2⟩⟩
theorem OwnP.len {w : World} {B : Nat} {v : Value} {ls : List (List Ins)} (h : OwnP w B v ls) : ∃ a c, v = .slice a ls.length c := by
  obtain ⟨us, h1, _⟩ := h; exact own_len h1
theorem OwnP.row {w : World} {B : Nat} {v : Value} {ls : List (List Ins)} (h : OwnP w B v ls) (hn : ls.length ≤ 5864062014805) : ProgsRow w w.heap.size v ls := by
  obtain ⟨us, h1, h2⟩ := h
  have hlen : us.length = ls.length := by have := h1.1; omega
  refine ⟨hn, ?_⟩
  rcases h1.2 with ⟨rfl, h0⟩ | ⟨g, cap, cur, rfl, hb, hg, hnc, hcm, hcs, htake⟩
  · exact .inl ⟨List.length_eq_zero_iff.1 h0, .inl rfl⟩
  · refine .inr ⟨g, 0, cap, rfl, (Array.getElem?_eq_some_iff.1 hg).1, fun j l hl => ?_⟩
    have hlt := (List.getElem?_eq_some_iff.1 hl).1
    obtain ⟨u, hu⟩ : ∃ u, us[j]? = some u := ⟨_, List.getElem?_eq_getElem (by omega)⟩
    refine ⟨u, ?_, (h2 j u l hu hl).1⟩
    rw [Nat.zero_add, World.ownsRow.cellAt h1 j (by omega), hu]
theorem OwnI.block {w : World} {B : Nat} {v : Value} {l : List Ins} (h : OwnI w B v l) {g : Nat} (hg : v.ownBlock = some g) : B ≤ g ∧ g < w.heap.size := by
  rcases h.own.2 with ⟨rfl, _⟩ | ⟨k, cap, cur, rfl, hb, hc, _⟩
  · simp [Value.ownBlock] at hg
  · simp only [Value.ownBlock, Option.some.injEq] at hg; subst hg; exact ⟨hb, (Array.getElem?_eq_some_iff.1 hc).1⟩
theorem InsRow.far {w w' : World} {vx : Value} {l : List Ins} (h : InsRow w w.heap.size vx l) (hs : w.heap.size ≤ w'.heap.size) (hold : ∀ g, vx.ownBlock = some g → g < w.heap.size → w'.heap[g]? = w.heap[g]?) : InsRow w' w'.heap.size vx l := by
  refine ⟨h.1, h.2.1, ?_⟩
  rcases h.2.2 with h3 | ⟨g, off, cap, rfl, hgl, hc⟩
  · exact .inl h3
  · exact .inr ⟨g, off, cap, rfl, by omega, fun j x hj k u hk => (World.cell?_of_block (hold g rfl hgl)).trans (hc j x hj k u hk)⟩

/-- append of a program to such a row. -/
theorem app_prog {ops : Array Oper} {rest : List Oper} {o : Oper} {a : Act} {Q : Exit → Act → World → Prop} (hgd : o.guard = none) (s x : Operand)
    (ho : o.op = .call { callee := .builtin .append, args := #[s, x], argTypes := #[22, 22] }) {w w0 : World} {v u : Value} {ls : List (List Ins)} {l : List Ins}
    (hs : a.eval s = v) (hown : OwnP w w0.heap.size v ls) (hx : a.eval x = .slice (some ⟨w.heap.size, 0, none⟩) 1 1) (hu : InsRow w w.heap.size u l) (hu1 : u.oneCell' = true) (hue : ∀ g, u.ownBlock = some g → g < w.heap.size ∧ v.ownBlock ≠ some g) (hlen : ls.length + 1 ≤ 5864062014805) (hb : Below w0.heap.size w0 w)
    (h : ∀ a' k c' w', Hid (k = ls.length + 1) → Hid (OwnP w' w0.heap.size (.slice a' k c') (ls ++ [l])) → Hid (Below w0.heap.size w0 w') → wpList Try.prog ops Q rest (a.put o.dst (.slice a' k c')) w') :
    wpList Try.prog ops Q (o :: rest) a (w.alloc (.cells #[u] 25)) := by
  have hlt := fun (g : Nat) (hg : v.ownBlock = some g) => hown.lt hg
  obtain ⟨us, h1, h2⟩ := hown
  have hus : us.length = ls.length := by have := h1.1; omega
  obtain ⟨i, hi, hz, hsize, hbytes⟩ := info_parts el_progs.hi
  refine wpList_append_lies _ hgd s x _ ho w0.heap.size _ i _ 1 24 el_progs.ht hi hz hsize hbytes el_progs.hzs el_progs.hsz v ls.length us hs (h1.alloc _) ⟨w.heap.size, 0, none⟩ 1 1 [u] hx rfl ?_ ?_ (by decide) (by unfold maxLen; omega) (by omega) (by have := hb.size; simp; omega) (w.heap.size + 1) (by simp) ?_
  · intro j y hy
    rw [Addr.add_lit]
    unfold World.cell?
    rw [heap_alloc_new w _]
    simpa using hy
  · intro y hy; rw [List.mem_singleton.1 hy]; exact hu1
  · intro g cap w' ho' hg hblk hgl
    have hsz : w.heap.size < w'.heap.size := (grownBy_alloc_trans hg).1
    have hold := (grownBy_alloc_trans hg).2
    refine h _ _ _ w' (Lib.hid rfl) (Lib.hid ⟨us ++ [u], by rw [List.length_append]; exact ho', ?_⟩) (Lib.hid ((hb.alloc hb.size _).grown hg (by have := hb.size; simp; omega) (fun k hk => (hlt _ hk).1)))
    have hnew : ∀ (y : Value) (m : List Ins), InsRow w w.heap.size y m → (∀ g', y.ownBlock = some g' → g' < w.heap.size ∧ v.ownBlock ≠ some g') → InsRow w' w'.heap.size y m ∧ ∀ g', y.ownBlock = some g' → g' < w'.heap.size ∧ Value.ownBlock (.slice (some ⟨g, 0, none⟩) (ls.length + 1) cap) ≠ some g' := by
      intro y m hy hye
      refine ⟨hy.far (by omega) fun g' hg' hgl' => hold g' hgl' (fun e => (hye g' hg').2 e.symm), fun g' hg' => ⟨by have := (hye g' hg').1; omega, fun e => ?_⟩⟩
      simp only [Value.ownBlock, Option.some.injEq] at e
      subst e
      rcases hblk with h3 | h3
      · exact (hye g hg').2 h3
      · have := (hye g hg').1; omega
    intro j y m hy hm
    rw [List.getElem?_append] at hy hm
    by_cases hj : j < ls.length
    · rw [if_pos (by omega)] at hy
      rw [if_pos hj] at hm
      exact hnew y m (h2 j y m hy hm).1 (h2 j y m hy hm).2
    · rw [if_neg (by omega)] at hy
      rw [if_neg hj] at hm
      have hy1 := List.mem_singleton.1 (List.mem_of_getElem? hy)
      have hm1 := List.mem_singleton.1 (List.mem_of_getElem? hm)
      subst hy1; subst hm1
      exact hnew y m hu hue

set_option maxRecDepth 20000 in
set_option maxHeartbeats 4000000 in
theorem copied_any (v : Value) (ls : List (List Ins)) (w : World) (hl : ProgsRow w w.heap.size v ls) :
    Calls Try.prog 19 #[v] w fun e w' => ∃ v', e = .returned v' ∧ ProgsRow w' w'.heap.size v' ls ∧ Below w.heap.size w w' := by
  obtain ⟨ao, cap, rfl⟩ := hl.len
  have hn5 := hl.1
  obtain ⟨n, hn'⟩ : ∃ n, ls.length = n := ⟨_, rfl⟩
  rw [hn'] at hl hn5 ⊢
  have HN := Lib.hid hn'; clear hn'
  have HL := Lib.hid hl; clear hl
  go_enter Try.func19, Try.ntmps19
  go_wp2
  go_loopg [3, 4] n (fun gg o i wr => ∃ k : Nat, k ≤ n ∧ gg = n - k ∧ i = .int .i64 k ∧ Hid (OwnP wr w.heap.size o (ls.take k) ∧ Below w.heap.size w wr))
  case atStart => exact ⟨0, by omega, rfl, rfl, OwnP.nil _ _, Below.refl _ _⟩
  case round =>
    obtain ⟨k, hk, hg, rfl, hP⟩ := hrel
    have HG := Lib.hid hg; clear hg
    by_cases hlt : k < n
    · obtain ⟨l, hx⟩ : ∃ s, ls[k]? = some s := ⟨_, List.getElem?_eq_getElem (by rw [HN.out]; exact hlt)⟩
      have hl2 := HL.out.step hP.out.2
      obtain ⟨g, off, u, rfl, hg, c0, hu⟩ := hl2.get hx
      have hi0 : (0 : Int) ≤ (k : Int) := Int.natCast_nonneg _
      have hi1 : (k : Int) < (n : Int) := by omega
      have HX := Lib.hid hx
      have kr := twin_own u l wr hu
      obtain ⟨r, hr⟩ : ∃ r, l.length = r := ⟨_, rfl⟩
      rw [hr] at kr
      have HR := Lib.hid hr
      clear hx hl2 hr
      go_wp2_with fail
      refine kr.mono ?_
      rintro e w1 ⟨a1, c1, rfl, ho1, hb1⟩
      have hP1 := hP.out.1.below hb1
      have hb2 := hP.out.2.trans (hb1.mono hP.out.2.size)
      have hue : ∀ g, (Value.slice a1 r c1).ownBlock = some g → g < w1.heap.size ∧ _ ≠ some g := fun g hg => ⟨(ho1.block hg).2, fun e => by have h1 := (hP.out.1.lt e).2; have h2 := (ho1.block hg).1; omega⟩
      have hrow := ho1.row hu.2.1
      clear hb1 kr ho1 hu c0 hg hP
      go_wp2_with (at_builtin; refine app_prog rfl _ _ rfl rfl hP1 rfl hrow rfl ?c1 ?c2 hb2 ?_)
      case c1 => exact hue
      case c2 => rw [List.length_take]; omega
      intro a' k' c' w' hk' hown' hb'
      have hkk : k' = k + 1 := by rw [hk'.out, HN.out]; omega
      subst hkk
      have hnew : Hid (OwnP w' w.heap.size (.slice a' (k + 1) c') (ls.take (k + 1)) ∧ Below w.heap.size w w') := Lib.hid ⟨by rw [take_snoc' _ _ _ HX.out]; exact hown'.out, hb'.out⟩
      clear hown' hb' hP1 hb2 hrow hue hk'
      go_wp2
      go_roundg (n - (k + 1))
      case measure => rw [HG.out]; omega
      case rel => exact ⟨k + 1, by omega, rfl, by go_num, hnew⟩
    · have hkn : k = n := by omega
      subst hkn
      have hP := Lib.hid (show OwnP wr w.heap.size _ ls ∧ Below w.heap.size w wr from ⟨by have h2 := hP.out.1; rwa [List.take_of_length_le (by rw [HN.out]; omega)] at h2, hP.out.2⟩)
      obtain ⟨a2, c2, rfl⟩ := hP.out.1.len
      go_wp2
      refine bodyPost_ret (v := .slice a2 ls.length c2) (by simp [results, Try.results19, go_sem]) rfl ?_
      exact ⟨_, rfl, hP.out.1.row (by rw [HN.out]; exact hn5), hP.out.2⟩

set_option maxHeartbeats 4000000 in
theorem alike_self (v v' : Value) (ls : List (List Ins)) (w : World) (hl : ProgsRow w w.heap.size v ls) (hl' : ProgsRow w w.heap.size v' ls) :
    Calls Try.prog 21 #[v, v'] w fun e w' => e = .returned (.bool true) ∧ Below w.heap.size w w' := by
  obtain ⟨ao, cap, rfl⟩ := hl.len
  obtain ⟨ao', cap', rfl⟩ := hl'.len
  have hn5 := hl.1
  obtain ⟨n, hn'⟩ : ∃ n, ls.length = n := ⟨_, rfl⟩
  rw [hn'] at hl hl' hn5 ⊢
  have HN := Lib.hid hn'; clear hn'
  have HL := Lib.hid hl; clear hl
  have HL' := Lib.hid hl'; clear hl'
  go_enter Try.func21, Try.ntmps21
  go_wp2
  go_loopg [5] n (fun gg i wr => ∃ k : Nat, k ≤ n ∧ gg = n - k ∧ i = .int .i64 k ∧ Below w.heap.size w wr)
  case atStart => exact ⟨0, by omega, rfl, rfl, Below.refl _ _⟩
  case round =>
    obtain ⟨k, hk, hg, rfl, hb⟩ := hrel
    have HG := Lib.hid hg; clear hg
    by_cases hlt : k < n
    · obtain ⟨l, hx⟩ : ∃ s, ls[k]? = some s := ⟨_, List.getElem?_eq_getElem (by rw [HN.out]; exact hlt)⟩
      have hl2 := HL.out.step hb
      have hl2' := HL'.out.step hb
      obtain ⟨g, off, u, rfl, hg, c0, hu⟩ := hl2.get hx
      obtain ⟨g', off', u', rfl, hg', c0', hu'⟩ := hl2'.get hx
      have hi0 : (0 : Int) ≤ (k : Int) := Int.natCast_nonneg _
      have hi1 : (k : Int) < (n : Int) := by omega
      have KS : Hid (∀ w', Below wr.heap.size wr w' → Calls Try.prog 35 #[u, u'] w' fun e w'' => e = .returned (.bool true) ∧ Below wr.heap.size wr w'') := Lib.hid fun w' hb' => (same_self ((hu.below hb').mono hb'.size) ((hu'.below hb').mono hb'.size)).mono fun e w'' h => ⟨h.1, hb'.trans (h.2.mono hb'.size)⟩
      have KK : Hid (∀ w', Below wr.heap.size wr w' → w'.cell? ⟨g, off + k, none⟩ = some u ∧ w'.cell? ⟨g', off' + k, none⟩ = some u') := Lib.hid fun w' hb' => ⟨(hb'.cell (p := ⟨g, off + k, none⟩) hg).trans c0, (hb'.cell (p := ⟨g', off' + k, none⟩) hg').trans c0'⟩
      have HBW := Lib.hid hb
      clear hx hl2 hl2' hb hu hu' hg hg'
      go_wp2
      go_region_held3 (fun w' => w'.cell? ⟨g, off + k, none⟩ = some u ∧ w'.cell? ⟨g', off' + k, none⟩ = some u')
        (with_reducible (first | exact KK.out _ hbS | exact KK.out _ (Below.refl _ _) | exact KK.out _ (Below.refl _ _).drew | fail "keep"))
        ((first | ((with_reducible refine (KS.out _ (by first | exact Below.refl _ _ | exact (Below.refl _ _).drew)).mono ?_); rintro e wS ⟨rfl, hbS⟩) | (fail "arm")))
      all_goals (
      have hb2 := HBW.out.trans (hbS.mono HBW.out.size)
      clear c0 c0' hbS
      go_wp2
      go_roundg (n - (k + 1)))
      case measure => rw [HG.out]; omega
      case rel => exact ⟨k + 1, by omega, rfl, by go_num, hb2⟩
    · have hkn : k = n := by omega
      subst hkn
      go_wp2
      go_ret
      exact ⟨rfl, hb⟩

end Go.Proofs.Ytaiomcjopgnfpaa


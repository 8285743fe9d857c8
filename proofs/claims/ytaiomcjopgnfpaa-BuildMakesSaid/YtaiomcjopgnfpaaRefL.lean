/- The walks of narcissusref01.List, Items, Same. -/
import Derived.Test.YtaiomcjopgnfpaaList
namespace Go.Proofs.Ytaiomcjopgnfpaa
open Go.RowKit

theorem lwr_take_le (l : List ByteArray) (k : Nat) : (lwr (l.take k)).length ≤ (lwr l).length := by
  have h : lwr l = lwr (l.take k) ++ lwr (l.drop k) := by
    conv => lhs; rw [← List.take_append_drop k l]
    unfold lwr; rw [List.map_append, List.flatten_append]
  rw [h]; simp

set_option maxHeartbeats 2000000 in
theorem refList_any (v : Value) (l : List ByteArray) (w : World) (hl : StrRow w w.heap.size v l) (hn : l.length ≤ 4000000000) (htot : (lwr l).length ≤ 4000000000) :
    Calls Try.prog 131 #[v] w fun e w' => e = .returned (.string ⟨(lwr l ++ [48]).toArray⟩) ∧ Below w.heap.size w w' := by
  obtain ⟨ao, cap, rfl⟩ := hl.len
  obtain ⟨n, hn'⟩ : ∃ n, l.length = n := ⟨_, rfl⟩
  rw [hn'] at hn hl ⊢
  have HN := Lib.hid hn'; clear hn'
  have HT := Lib.hid htot; clear htot
  obtain ⟨r1, hr1⟩ : ∃ r, (⟨(lwr l ++ [48]).toArray⟩ : ByteArray) = r := ⟨_, rfl⟩
  rw [hr1]
  have H1 := Lib.hid hr1; clear hr1
  go_enter Try.func131, Try.ntmps131
  go_wp2
  go_loopg [3, 4] n (fun g v i wr => ∃ k m : Nat, k ≤ n ∧ g = n - k ∧ i = .int .i64 k ∧ Aside (m = (lwr (l.take k)).length) ∧ wr.ownsRow w.heap.size 5 1 v m (Lib.byteCells (lwr (l.take k))) ∧ Below w.heap.size w wr)
  case atStart => exact ⟨0, 0, Nat.zero_le _, rfl, rfl, rfl, World.ownsRow_nil _ _ _ _, Below.refl _ _⟩
  case round =>
    obtain ⟨k, m, hk, hg, rfl, hm, hown, hb⟩ := hrel
    have HG := Lib.hid hg; clear hg
    have hmb : m ≤ 4000000000 := by rw [hm.out]; exact Nat.le_trans (lwr_take_le l k) HT.out
    have hsz := hb.size
    by_cases hlt : k < n
    · obtain ⟨s, hs⟩ : ∃ s, l[k]? = some s := ⟨_, List.getElem?_eq_getElem (by rw [HN.out]; exact hlt)⟩
      have hlr := hl.below hb
      obtain ⟨g, off, rfl, hg, hcell⟩ := hlr.get hs
      have hm2 : m + 1 + s.size ≤ 4000000000 := by
        have h1 := Nat.le_trans (lwr_take_le l (k + 1)) HT.out
        rw [take_snoc' l k s hs, lwr_snoc] at h1
        have hss : s.data.toList.length = s.size := by simp
        simp only [List.length_append, List.length_cons, hss] at h1
        rw [hm.out]; omega
      have HS := Lib.hid hs; clear hs
      obtain ⟨av, cv, rfl⟩ := own_len hown
      have hi0 : (0 : Int) ≤ (k : Int) := Int.natCast_nonneg _
      have hi1 : (k : Int) < (n : Int) := by omega
      have hlr' := Lib.hid hl
      clear hlr
      go_wp2
      go_region_held3 (fun w' => w'.cell? ⟨g, off + k, none⟩ = some (.string s))
        (first | assumption | exact hcell | exact (hb1.cell (p := ⟨g, off + k, none⟩) hg).trans ((hb.cell (p := ⟨g, off + k, none⟩) hg).symm.trans hcell) | exact (hb2.cell (p := ⟨g, off + k, none⟩) hg).trans ((hb.cell (p := ⟨g, off + k, none⟩) hg).symm.trans hcell) | exact ((hb.alloc hsz _).drew.cell (p := ⟨g, off + k, none⟩) hg).trans ((hb.cell (p := ⟨g, off + k, none⟩) hg).symm.trans hcell))
        ((first | (refine step_str el_u8 Try.underlying9 (by rfl) _ _ (by rfl) (by rfl) hown1 s (by rfl) (by omega) hb1.size hb1 (Nat.le_refl _) ?_; intro v2 w2 hown2 hb2 hgr2) | (refine step_new el_u8 (by rfl) _ _ (by rfl) (by rfl) (hown.drew) [.int .u8 49] 1 (by rfl) (by rfl) (by decide) (by intro u hu; simp at hu; rcases hu with rfl; rfl) (by omega) (by unfold maxLen; omega) hsz hb.drew (Nat.le_refl _) ?_; intro g1 cap1 w1 hown1 hb1 hgr1)))
      all_goals
        go_wp2
        go_roundg (n - (k + 1))
        case measure => rw [HG.out]; omega
        case rel =>
          refine ⟨k + 1, m + 1 + s.size, by omega, rfl, by go_num, ?_, ?_, hb2⟩
          · show _ = _; rw [take_snoc' l k s HS.out, lwr_snoc, List.length_append, ← hm.out]; simp; omega
          · have : Lib.byteCells (lwr (l.take (k + 1))) = Lib.byteCells (lwr (l.take k)) ++ [.int .u8 49] ++ Lib.strCells s := by
              rw [take_snoc' l k s HS.out, lwr_snoc]; simp [Lib.byteCells, Lib.strCells]
            rw [this]; exact hown2
    · have hta : l.take k = l := List.take_of_length_le (by rw [HN.out]; omega)
      rw [hta] at hown
      clear hta hm
      go_wp2_with (at_builtin; refine app_new el_u8 rfl _ _ rfl rfl hown [.int .u8 48] 1 rfl rfl ?c1 ?c2 ?c3 hsz hb (Nat.le_refl _) ?_)
      case c1 => intro u hu; simp at hu; rcases hu with rfl; rfl
      case c2 => omega
      case c3 => unfold maxLen; omega
      intro v' w' hown' hb' hgr
      have hcv := own_bytes (P := Try.prog) (lwr l ++ [48]) (by simpa [Lib.byteCells] using hown') 126 Try.underlying126 Try.underlying5 9 Try.underlying9
      clear hown hb hown'
      go_wp2
      go_ret
      exact ⟨by rw [← H1.out]; rfl, hb'⟩

/-- Two lists of strings are equal. -/
def sameB (a b : List ByteArray) : Bool := decide (a = b)
theorem same_take {a b : List ByteArray} {k : Nat} {s u : ByteArray} (h : a.take k = b.take k) (h1 : a[k]? = some s) (h2 : b[k]? = some u) (he : s = u) : a.take (k + 1) = b.take (k + 1) := by
  rw [take_snoc' _ _ _ h1, take_snoc' _ _ _ h2, h, he]

/-- Where the rest of a tree, as a list, begins. -/
def ITail (t u : Tr) (p : Nat) : Prop := p + u.size = t.size ∧ t.enc.drop p = u.enc
theorem ITail.get {t u : Tr} {p : Nat} (h : ITail t u p) (hp : p < (TS t).size) : ((TS t)[p].toNat : Int) = (if u = .nil then 48 else 49 : Int) := by
  rw [TS_get]
  have e : t.enc.drop p = t.enc[p]'(by rw [TS_size, ← Tr.enc_length] at hp; exact hp) :: t.enc.drop (p + 1) := List.drop_eq_getElem_cons _
  rw [h.2] at e
  cases u with
  | nil => simp only [Tr.enc, List.cons.injEq] at e; rw [← e.1]; rfl
  | pair a b => simp only [Tr.enc, List.cons.injEq] at e; rw [← e.1]; rfl
theorem ITail.next {t a b : Tr} {p : Nat} (h : ITail t (.pair a b) p) : ITail t b (p + 1 + a.size) ∧ endI (TS t) (p + 1) 1 = (p + 1 + a.size : Nat) ∧ (TS t).extract (p + 1) (p + 1 + a.size) = TS a := by
  have e1 : t.enc.drop (p + 1) = a.enc ++ b.enc := by
    have : t.enc.drop (p + 1) = (t.enc.drop p).drop 1 := by rw [List.drop_drop]
    rw [this, h.2]; rfl
  have hs := h.1
  simp only [Tr.size] at hs
  refine ⟨⟨by omega, ?_⟩, ?_, ?_⟩
  · have : t.enc.drop (p + 1 + a.size) = (t.enc.drop (p + 1)).drop a.size := by rw [List.drop_drop]
    rw [this, e1, List.drop_append, Tr.enc_length]; simp [← Tr.enc_length]
  · unfold endI
    rw [TS_list, e1]
    have := endF_enc a b.enc 0
    rw [this]; simp [endF]
  · apply ba_ext
    rw [Lib.extract_data, TS_list, TS_list, e1]
    simp [List.take_append, Tr.enc_length]

end Go.Proofs.Ytaiomcjopgnfpaa

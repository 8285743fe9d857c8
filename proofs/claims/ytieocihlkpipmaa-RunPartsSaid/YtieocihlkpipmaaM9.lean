/- The walk of run.Step. The walks of narcissuslaw03: RunSteps. The walks of narcissuslaw03: RunShared. The walks of narcissuslaw03: RunParts. -/
import Derived.Test.YtieocihlkpipmaaRunA
import Derived.Test.YtieocihlkpipmaaRef3F
import Derived.Test.YtieocihlkpipmaaM8
namespace Go.Proofs.Ytieocihlkpipmaa
open Go.RowKit

/-- The first k registers are read. -/
def regsK (L : List ByteArray) (k : Nat) : List Tr := (L.take k).map toTr ++ List.replicate (32 - k) .nil
theorem regsK_length (L : List ByteArray) (hL : L.length = 32) (k : Nat) (hk : k ≤ 32) : (regsK L k).length = 32 := by unfold regsK; simp; omega
theorem regsK_succ (L : List ByteArray) (k : Nat) (hk : k < 32) {s : ByteArray} (hs : L[k]? = some s) : (regsK L k).set k (toTr s) = regsK L (k + 1) := by
  unfold regsK
  have hkl : k < L.length := (List.getElem?_eq_some_iff.1 hs).1
  have h1 : ((L.take k).map toTr).length = k := by simp; omega
  rw [take_snoc' _ _ _ hs, List.map_append, List.set_append_right _ _ (by omega), h1, Nat.sub_self, show 32 - k = (32 - (k + 1)) + 1 by omega, List.replicate_succ, List.set_cons_zero, List.append_assoc]
  rfl
theorem regsK_all (L : List ByteArray) (hL : L.length = 32) : regsK L 32 = L.map toTr := by unfold regsK; rw [List.take_of_length_le (by omega)]; simp
theorem regsK_get (L : List ByteArray) (hL : L.length = 32) (k : Nat) (hk : k < 32) : (regsK L k)[k]? = some .nil := by
  unfold regsK
  have h1 : ((L.take k).map toTr).length = k := by simp; omega
  rw [List.getElem?_append_right (by omega), h1, Nat.sub_self, show 32 - k = (32 - (k + 1)) + 1 by omega, List.replicate_succ]
  rfl
theorem regsK_zero (L : List ByteArray) : regsK L 0 = .nil :: List.replicate 31 .nil := rfl

/-- Step's variables: the state that came in, the state that is handed back. -/
structure StpC (w : World) (n : Int) (u : Value) (L : List ByteArray) (W : World) : Prop where
  s : W.heap[w.heap.size]? = some (.cells #[.int .i64 n, u] 53 (0, 0))
  r : W.heap[w.heap.size + 1]? = some (.cells #[.int .i64 0, .slice none 0 0] 53 (0, 0))
  b : Below w.heap.size w W
  l : StrRow W w.heap.size u L
theorem StpC.below {w : World} {n : Int} {u : Value} {L : List ByteArray} {A B : World} (h : StpC w n u L A) (hE : Below A.heap.size A B) : StpC w n u L B := by
  have q : ∀ (b : Nat) (o : Obj), A.heap[b]? = some o → B.heap[b]? = some o := fun b o ho => below_blk hE ho (Array.getElem?_eq_some_iff.1 ho).1
  exact ⟨q _ _ h.s, q _ _ h.r, h.b.trans (hE.mono h.b.size), h.l.below (hE.mono h.b.size)⟩
theorem StpC.els {w : World} {n : Int} {u : Value} {L : List ByteArray} {A B : World} (h : StpC w n u L A) {g : Nat} (hE : Els g A B) (hg : w.heap.size + 1 < g) : StpC w n u L B :=
  ⟨els_blk hE (by omega) h.s, els_blk hE (by omega) h.r, h.b.trans (hE.below (by omega) h.b.size), h.l.below (hE.below (by omega) h.b.size)⟩
theorem StpC.start (w : World) (n : Int) (u : Value) (L : List ByteArray) (h : StrRow w w.heap.size u L) : StpC w n u L ((w.alloc (.cells #[.int .i64 n, u] 53)).alloc (.cells #[.int .i64 0, .slice none 0 0] 53)) := by
  have x0 := heap_alloc_new w (.cells #[.int .i64 n, u] 53)
  have x1 := heap_alloc_new (w.alloc (.cells #[.int .i64 n, u] 53)) (.cells #[.int .i64 0, .slice none 0 0] 53)
  have y0 := (Below.heap_alloc _ (.cells #[.int .i64 0, .slice none 0 0] 53) _ (by simp)).trans x0
  rw [World.size_alloc] at x1
  have hb := ((Below.refl w.heap.size w).alloc (Nat.le_refl _) (.cells #[.int .i64 n, u] 53)).alloc (by simp) (.cells #[.int .i64 0, .slice none 0 0] 53)
  exact ⟨y0, x1, hb, h.below hb⟩

set_option maxHeartbeats 1000000 in
theorem rstep_form (v : Value) (l : List Ins) (n : Int) (hn : i64 n) (u : Value) (L : List ByteArray) (w : World) (hl : InsRow w w.heap.size v l) (hL : StrRow w w.heap.size u L) (h : validB l = false ∨ n < 0 ∨ (l.length : Int) < n ∨ L.length ≠ 32) :
    Calls Try.prog 47 #[v, .agg #[.int .i64 n, u]] w (StateBad w 1) := by
  have hc0 := StpC.start w n u L hL
  have kv := codeValidP_at v l _ ((hl.below hc0.b).mono hc0.b.size) _ rfl
  obtain ⟨ao, cap, rfl⟩ := hl.len
  obtain ⟨au, cu, rfl⟩ := hL.len
  obtain ⟨m, hm⟩ : ∃ m, L.length = m := ⟨_, rfl⟩
  have hml := hL.2.1
  have hll := hl.2.1
  obtain ⟨z, hz⟩ : ∃ z, l.length = z := ⟨_, rfl⟩
  rw [hm] at hc0 hml h kv ⊢
  rw [hz] at kv h hll ⊢
  have HC0 := Lib.hid hc0
  unfold i64 at hn
  obtain ⟨bv, hbv⟩ : ∃ bv, validB l = bv := ⟨_, rfl⟩
  rw [hbv] at kv h
  clear hm hL hl hc0 hbv hz
  have fin : ∀ w1, Below ((w.alloc (.cells #[.int .i64 n, .slice au m cu] 53)).alloc (.cells #[.int .i64 0, .slice none 0 0] 53)).heap.size ((w.alloc (.cells #[.int .i64 n, .slice au m cu] 53)).alloc (.cells #[.int .i64 0, .slice none 0 0] 53)) w1 → StpC w n (.slice au m cu) L w1 := fun w1 hb => HC0.out.below hb
  rcases (by cases bv <;> simp_all <;> omega : bv = false ∨ (bv = true ∧ n < 0) ∨ (bv = true ∧ 0 ≤ n ∧ (z : Int) < n) ∨ (bv = true ∧ 0 ≤ n ∧ n ≤ (z : Int) ∧ m ≠ 32)) with rfl | ⟨rfl, h1⟩ | ⟨rfl, h1, h2⟩ | ⟨rfl, h1, h2, h3⟩
  case' inr.inr.inr => have hne : ((m : Int) != 32) = true := by rw [bne_iff_ne]; omega
  all_goals
    clear h
    go_enter Try.func47, Try.ntmps47
    go_wp2_with fail
    refine kv.mono ?_
    rintro e w1 ⟨rfl, hb1⟩
    have hc1 := fin w1 hb1
    have c0 := (block_cells hc1.s).1 0
    have c1 := (block_cells hc1.s).1 1
    have d0 := (block_cells hc1.r).1 0
    have d1 := (block_cells hc1.r).1 1
    have f0 := (block_cells hc1.r).2 0
    have f1 := (block_cells hc1.r).2 1
    simp only [List.getElem?_toArray, List.getElem?_cons_zero, List.getElem?_cons_succ] at c0 c1 d0 d1
    have hr := hc1.r
    have HB := Lib.hid hc1.b
    clear kv fin hb1 hc1
    go_wp2
    obtain ⟨z0, z1, z3⟩ := zero_cells hr HB.out (by omega)
    refine bodyPost_ret (v := .tuple #[.agg #[.int .i64 0, .slice none 0 0], .int .i64 1]) (by simp [results, Try.results47, go_sem, z0, z1]) rfl ?_
    exact ⟨rfl, z3⟩

/-- What holds at the head of Step's loop. -/
def StpL (w : World) (n : Int) (u : Value) (L : List ByteArray) (l : List Ins) (pv sv : Value) (B g k : Nat) (W : World) : Prop :=
  StpC w n u L W ∧ (∀ s ∈ L.take k, isTree s = true) ∧ ∃ ps, MachP W B g l ⟨n.toNat, regsK L k⟩ pv sv ps

set_option maxRecDepth 20000 in
set_option maxHeartbeats 2000000 in
theorem rstep_any (v : Value) (l : List Ins) (hv : validB l = true) (n : Int) (hn0 : 0 ≤ n) (hn1 : n ≤ (l.length : Int)) (u : Value) (L : List ByteArray) (hL32 : L.length = 32) (w : World) (hl : InsRow w w.heap.size v l) (hL : StrRow w w.heap.size u L) :
    Calls Try.prog 47 #[v, .agg #[.int .i64 n, u]] w (fun e w' =>
      if L.all isTree = false then StateBad w 1 e w' else if n = (l.length : Int) then StateBad w 6 e w' else match stepP l ⟨n.toNat, L.map toTr⟩ with
      | none => StateBad w 3 e w'
      | some s' => StateOk w s' e w') := by
  obtain ⟨R, hR⟩ : ∃ R : Ending → World → Prop, R = (fun e w' =>
      if L.all isTree = false then StateBad w 1 e w' else if n = (l.length : Int) then StateBad w 6 e w' else match stepP l ⟨n.toNat, L.map toTr⟩ with
      | none => StateBad w 3 e w'
      | some s' => StateOk w s' e w') := ⟨_, rfl⟩
  rw [← hR]
  have HR := Lib.hid hR
  clear hR
  have hc0 := StpC.start w n u L hL
  have hl0 := (hl.below hc0.b).mono hc0.b.size
  have kv := codeValidP_at v l _ hl0 _ hv
  have hn4 := validB_len hv
  have HV := Lib.hid (validB_all hv)
  have kn := fun w' (h : InsRow w' w'.heap.size v l) => newMachine_any v l .nil (.pointer none) w' h hn4 rfl
  have HL0 := Lib.hid hl0
  obtain ⟨ao, cap, rfl⟩ := hl.len
  obtain ⟨au, cu, rfl⟩ := hL.len
  rw [hL32] at hc0 kv HL0 ⊢
  have H32 := Lib.hid hL32
  have HC0 := Lib.hid hc0
  clear hL hl hc0 hv hl0 hL32
  obtain ⟨z, hz⟩ : ∃ z, l.length = z := ⟨_, rfl⟩
  rw [hz] at kv hn1 hn4 kn HL0 ⊢
  have HZ := Lib.hid hz
  clear hz
  go_enter Try.func47, Try.ntmps47
  go_wp2_with fail
  refine kv.mono ?_
  rintro e w1 ⟨rfl, hb1⟩
  have hc1 := HC0.out.below hb1
  have c0 := (block_cells hc1.s).1 0
  have c1 := (block_cells hc1.s).1 1
  simp only [List.getElem?_toArray, List.getElem?_cons_zero, List.getElem?_cons_succ] at c0 c1
  have kn1 := kn w1 ((HL0.out.below hb1).mono hb1.size)
  have HC1 := Lib.hid hc1
  clear kv hb1 hc1 kn
  go_wp2_with fail
  refine kn1.mono ?_
  rintro e w2 ⟨g, sv, ps, rfl, hm, hb2⟩
  have hc2 := HC1.out.below hb2
  have c0 := (block_cells hc2.s).1 0
  have c1 := (block_cells hc2.s).1 1
  have m34 := (hm.cells rfl).2.2.1
  have mf34 := (hm.cells rfl).2.2.2.2 34
  simp only [List.getElem?_toArray, List.getElem?_cons_zero, List.getElem?_cons_succ] at c0 c1
  have hglt := hm.lt
  have hbg : w.heap.size + 1 < g := by
    have h1 := hm.le
    have h2 := (Array.getElem?_eq_some_iff.1 HC1.out.r).1
    omega
  have hm2 := hm.setPos rfl n.toNat
  rw [show ((n.toNat : Nat) : Int) = n by omega] at hm2
  have hstart : StpL w n (.slice au 32 cu) L l (.slice ao z cap) sv w1.heap.size g 0 (w2.setCell ⟨g, 34, none⟩ (.int .i64 n)) :=
    ⟨hc2.els ((Els.refl g w2).set 34 _) hbg, by simp, _, by rw [regsK_zero]; exact hm2⟩
  have HS := Lib.hid hstart
  clear hm hb2 hc2 kn1 hm2 hstart
  go_wp2
  go_loopg [43] 32 (fun gg i wr => ∃ k : Nat, k ≤ 32 ∧ gg = 32 - k ∧ i = .int .i64 k ∧ Hid (StpL w n (.slice au 32 cu) L l (.slice ao z cap) sv w1.heap.size g k wr))
  case atStart => exact ⟨0, by omega, rfl, rfl, HS.out⟩
  case round =>
    obtain ⟨k, hk, hgg, rfl, hst⟩ := hrel
    have HGG := Lib.hid hgg
    have hlen := HZ.out
    obtain ⟨hc, hall, psk, hmk⟩ := hst.out
    have HALL := Lib.hid hall
    have HMK := Lib.hid hmk
    have HC := Lib.hid hc
    clear hgg hall hlen HS
    by_cases hlt : k < 32
    · obtain ⟨s, hs⟩ : ∃ s, L[k]? = some s := ⟨_, List.getElem?_eq_getElem (by rw [H32.out]; exact hlt)⟩
      have hlrow := hc.l
      obtain ⟨rg, off, rfl, hrg, hcell⟩ := hlrow.get hs
      have hsz := hlrow.size hs
      have kp := fun w => parse_tr s hsz w
      have HSS := Lib.hid hs
      have hi0 : (0 : Int) ≤ (k : Int) := Int.natCast_nonneg _
      have hi1 : (k : Int) < 32 := by omega
      clear hs hlrow hmk hc
      cases ht : isTree s with
      | true =>
        rw [ht] at kp
        have HT := Lib.hid ht
        clear ht
        go_wp2_with fail
        refine (kp _).mono ?_
        rintro e w3 ⟨p, rfl, hb3, hn⟩
        have hm3 := HMK.out.kept hb3
        obtain ⟨_, _, _, hrk, hfk⟩ := hm3.cells (regsK_length L H32.out k (by omega))
        obtain ⟨q, cq, _⟩ := hrk k .nil (regsK_get L H32.out k hlt)
        have fq := hfk (2 + k)
        have hg3 := hm3.lt
        have hnew : Hid (StpL w n (.slice (some ⟨rg, off, none⟩) 32 cu) L l (.slice ao z cap) sv w1.heap.size g (k + 1) (w3.setCell ⟨g, 2 + k, none⟩ (.pointer p))) := by
          refine ⟨(HC.out.below hb3).els ((Els.refl g w3).set _ _) hbg, ?_, ?_⟩
          · intro y hy
            rw [take_snoc' _ _ _ HSS.out] at hy
            rcases List.mem_append.1 hy with h | h
            · exact HALL.out y h
            · simp at h; subst h; exact HT.out
          · have := hm3.setReg k (by rw [regsK_length L H32.out k (by omega)]; exact hlt) hn
            exact ⟨_, by rw [← regsK_succ L k hlt HSS.out]; exact this⟩
        clear hm3 hrk hfk hn hb3 kp
        go_wp2
        go_roundg (32 - (k + 1))
        case measure => rw [HGG.out]; omega
        case rel => exact ⟨k + 1, by omega, rfl, by go_num, hnew⟩
      | false =>
        rw [ht] at kp
        have hf : Hid (L.all isTree = false) := by
          show L.all isTree = false
          rw [Bool.eq_false_iff]; intro h
          have := List.all_eq_true.1 h s (List.mem_of_getElem? HSS.out)
          rw [ht] at this; cases this
        clear ht
        go_wp2_with fail
        refine (kp _).mono ?_
        rintro e w3 ⟨p, rfl, hb3, hn⟩
        have hc3 := HC.out.below hb3
        have d0 := (block_cells hc3.r).1 0
        have d1 := (block_cells hc3.r).1 1
        have f0 := (block_cells hc3.r).2 0
        have f1 := (block_cells hc3.r).2 1
        simp only [List.getElem?_toArray, List.getElem?_cons_zero, List.getElem?_cons_succ] at d0 d1
        have hr := hc3.r
        have HB := Lib.hid hc3.b
        clear kp hn hb3 hc3
        go_wp2
        obtain ⟨z0, z1, z3⟩ := zero_cells hr HB.out (by omega)
        refine bodyPost_ret (v := .tuple #[.agg #[.int .i64 0, .slice none 0 0], .int .i64 1]) (by simp [results, Try.results47, go_sem, z0, z1]) rfl ?_
        rw [HR.out]
        simp only
        rw [if_pos hf.out]
        exact ⟨rfl, z3⟩
    · have hk32 : k = 32 := by omega
      subst hk32
      have hall : L.all isTree = true := List.all_eq_true.2 (by have := HALL.out; rwa [List.take_of_length_le (by rw [H32.out]; exact Nat.le_refl _)] at this)
      have HA := Lib.hid hall
      have hgood : Good l.length ⟨n.toNat, L.map toTr⟩ := by
        refine ⟨by have := HZ.out; show n.toNat ≤ _; omega, by simp [H32.out], fun t ht => ?_⟩
        obtain ⟨y, _, rfl⟩ := List.mem_map.1 ht
        exact toTr_size y
      have hm' := HMK.out
      rw [regsK_all L H32.out] at hm'
      have HG := Lib.hid hgood
      have HM := Lib.hid hm'
      clear hall hgood hmk hc hm'
      obtain ⟨be, hbe⟩ : ∃ be, (((n.toNat : Nat) : Int) == (l.length : Int)) = be := ⟨_, rfl⟩
      have ke := ended_at be wr _ g l ⟨n.toNat, L.map toTr⟩ _ sv psk HM.out HG.out hbe
      have HBE := Lib.hid hbe
      clear hbe
      cases be with
      | true =>
        have hR : Hid (∀ e w', StateBad w 6 e w' → R e w') := by
          intro e w' h
          have hn : n = (l.length : Int) := by have := eq_of_beq HBE.out; omega
          rw [HR.out]
          simp only
          rw [if_neg (by rw [HA.out]; simp), if_pos hn]
          exact h
        go_wp2_with fail
        refine ke.mono ?_
        rintro e w3 ⟨rfl, hb3⟩
        have hc3 := HC.out.below hb3
        have d0 := (block_cells hc3.r).1 0
        have d1 := (block_cells hc3.r).1 1
        have f0 := (block_cells hc3.r).2 0
        have f1 := (block_cells hc3.r).2 1
        simp only [List.getElem?_toArray, List.getElem?_cons_zero, List.getElem?_cons_succ] at d0 d1
        have hr := hc3.r
        have HB := Lib.hid hc3.b
        clear ke hb3 hc3
        go_wp2
        obtain ⟨z0, z1, z3⟩ := zero_cells hr HB.out (by omega)
        refine bodyPost_ret (v := .tuple #[.agg #[.int .i64 0, .slice none 0 0], .int .i64 6]) (by simp [results, Try.results47, go_sem, z0, z1]) rfl ?_
        exact hR.out _ _ ⟨rfl, z3⟩
      | false =>
        have hne : n.toNat ≠ l.length := by
          intro h
          have h1 := HBE.out
          rw [h] at h1
          simp at h1
        have HNE := Lib.hid hne
        have hlt2 : n.toNat < l.length := by have := HZ.out; omega
        have HLT := Lib.hid hlt2
        have hn4' : l.length ≤ 4000 := by have := HZ.out; omega
        have H4 := Lib.hid hn4'
        clear hne hlt2 hn4'
        go_wp2_with fail
        refine ke.mono ?_
        rintro e w3 ⟨rfl, hb3⟩
        have hm3 := HM.out.kept hb3
        cases hs : stepP l ⟨n.toNat, L.map toTr⟩ with
        | none =>
          have ks := step_at_none w3 _ g _ sv psk hm3 HG.out HV.out HLT.out H4.out hs
          have hR : Hid (∀ e w', StateBad w 3 e w' → R e w') := by
            intro e w' h
            rw [HR.out]
            simp only
            rw [if_neg (by rw [HA.out]; simp), if_neg (by have := HNE.out; omega), hs]
            exact h
          have hc3 := Lib.hid (HC.out.below hb3)
          clear ke hb3 hm3 hs
          go_wp2_with fail
          refine ks.mono ?_
          rintro e w4 ⟨rfl, hE⟩
          have hc4 := hc3.out.els hE.out.2 hbg
          have d0 := (block_cells hc4.r).1 0
          have d1 := (block_cells hc4.r).1 1
          have f0 := (block_cells hc4.r).2 0
          have f1 := (block_cells hc4.r).2 1
          simp only [List.getElem?_toArray, List.getElem?_cons_zero, List.getElem?_cons_succ] at d0 d1
          have hr := hc4.r
          have HB := Lib.hid hc4.b
          clear ks hE hc4
          go_wp2
          obtain ⟨z0, z1, z3⟩ := zero_cells hr HB.out (by omega)
          refine bodyPost_ret (v := .tuple #[.agg #[.int .i64 0, .slice none 0 0], .int .i64 3]) (by simp [results, Try.results47, go_sem, z0, z1]) rfl ?_
          exact hR.out _ _ ⟨rfl, z3⟩
        | some s' =>
          have ks := step_at_some w3 _ g _ sv psk hm3 HG.out HV.out HLT.out H4.out hs
          have HG' := Lib.hid (HG.out.step HV.out hs)
          have hR : Hid (∀ e w', StateOk w s' e w' → R e w') := by
            intro e w' h
            rw [HR.out]
            simp only
            rw [if_neg (by rw [HA.out]; simp), if_neg (by have := HNE.out; omega), hs]
            exact h
          have hc3 := Lib.hid (HC.out.below hb3)
          clear ke hb3 hm3 hs
          go_wp2_with fail
          refine ks.mono ?_
          rintro e w4 ⟨rfl, hE⟩
          obtain ⟨⟨ps', hm'⟩, hels⟩ := hE.out
          have hc4 := Lib.hid (hc3.out.els hels hbg)
          have kst := state_any _ _ _ _ _ _ _ _ hm' HG'.out
          clear ks hE hm' hels
          go_wp2_with fail
          refine kst.mono ?_
          rintro e w5 ⟨vs, rfl, hrow, k5⟩
          have hc5 := hc4.out.below k5
          obtain ⟨LL, hLL⟩ : ∃ LL, s'.regs.map TS = LL := ⟨_, rfl⟩
          rw [hLL] at hrow
          have HL := Lib.hid hLL
          clear hLL
          obtain ⟨a5, cp5, rfl⟩ := hrow.len
          have d0 := (block_cells hc5.r).1 0
          have d1 := (block_cells hc5.r).1 1
          have f0 := (block_cells hc5.r).2 0
          have f1 := (block_cells hc5.r).2 1
          simp only [List.getElem?_toArray, List.getElem?_cons_zero, List.getElem?_cons_succ] at d0 d1
          have hr := hc5.r
          have HB := Lib.hid hc5.b
          have HROW := Lib.hid hrow
          clear kst k5 hc5 hrow
          go_wp2
          obtain ⟨z0, z1, z2, z3⟩ := state_cells (u := .pointer none) (x := .pointer none) rfl hr HROW.out HB.out (by omega) (s'.pos : Int) ⟨_, _, _, rfl⟩
          refine bodyPost_ret (v := .tuple #[.agg #[.int .i64 (s'.pos : Nat), .slice a5 LL.length cp5], .int .i64 0]) (by simp [results, Try.results47, go_sem, z0, z1]) rfl ?_
          exact hR.out _ _ ⟨_, rfl, by rw [HL.out]; exact z2, z3⟩

end Go.Proofs.Ytieocihlkpipmaa

namespace Go.Proofs.Ytieocihlkpipmaa
open Go.RowKit

theorem box2 {W : World} {b T : Nat} {x y : Value} (h : W.heap[b]? = some (.cells #[x, y] T (0, 0))) : W.cell? ⟨b, 0, none⟩ = some x ∧ W.cell? ⟨b, 1, none⟩ = some y := ⟨(block_cells h).1 0, (block_cells h).1 1⟩
theorem box2_keep {W : World} {b T : Nat} {x y : Value} (h : W.heap[b]? = some (.cells #[x, y] T (0, 0))) : ∀ w', Below W.heap.size W w' → w'.cell? ⟨b, 0, none⟩ = some x ∧ w'.cell? ⟨b, 1, none⟩ = some y := fun _ hb => box2 (blk_lift hb h)
theorem blk_lift_drew {A B : World} {b : Nat} {o : Obj} (hb : Below A.drew.heap.size A.drew B) (h : A.heap[b]? = some o) : B.heap[b]? = some o := blk_lift (A := A.drew) hb h
theorem box4 {W : World} {b T : Nat} {x y : Value} (h : W.heap[b]? = some (.cells #[x, y] T (0, 0))) : W.cell? ⟨b, 0, none⟩ = some x ∧ W.cell? ⟨b, 1, none⟩ = some y ∧ W.frozen? ⟨b, 0, none⟩ = false ∧ W.frozen? ⟨b, 1, none⟩ = false := ⟨(block_cells h).1 0, (block_cells h).1 1, (block_cells h).2 0, (block_cells h).2 1⟩
/-- A new box of two cells. -/
theorem box2_new (W : World) (T : Nat) (x y : Value) : (W.alloc (.cells #[x, y] T)).heap[W.heap.size]? = some (.cells #[x, y] T (0, 0)) := heap_alloc_new W _
theorem alloc_below (W : World) (o : Obj) : Below W.heap.size W (W.alloc o) := (Below.refl _ _).alloc (Nat.le_refl _) _

theorem not_cell {A : World} {b j T : Nat} {x y v : Value} (h : A.heap[b]? = some (.cells #[x, y] T (0, 0))) (hj : 2 ≤ j) : A.cell? ⟨b, j, none⟩ ≠ some v := by
  rw [(block_cells h).1]
  match j, hj with
  | j + 2, _ => simp
theorem InsRow.els2 {A B : World} {b : Nat} {v : Value} {l : List Ins} (h : InsRow A A.heap.size v l) (hE : Els b A B) (hb : A.heap[b]? = none ∨ ∃ x y T, A.heap[b]? = some (.cells #[x, y] T (0, 0))) : InsRow B B.heap.size v l := by
  obtain ⟨h1, h2, h3⟩ := h
  refine ⟨h1, h2, ?_⟩
  rcases h3 with h3 | ⟨g, off, cap, hv, hg, hc⟩
  · exact .inl h3
  · refine .inr ⟨g, off, cap, hv, by have := hE.size; omega, fun j x hj k u hk => ?_⟩
    have hne : g ≠ b := by
      rintro rfl
      rcases hb with hb | ⟨x1, y1, T, hb⟩
      · rw [Array.getElem?_eq_none_iff] at hb; omega
      · exact not_cell hb (by omega) (hc j x hj 4 _ rfl)
    exact (World.cell?_of_block (hE.block g hg hne)).trans (hc j x hj k u hk)
theorem StrRow.els2 {A B : World} {b : Nat} {v : Value} {l : List ByteArray} (h : StrRow A A.heap.size v l) (hE : Els b A B) (hb : A.heap[b]? = none ∨ ∃ x y T, A.heap[b]? = some (.cells #[x, y] T (0, 0)) ∧ (∀ s, x ≠ .string s) ∧ ∀ s, y ≠ .string s) : StrRow B B.heap.size v l := by
  obtain ⟨h1, h2, h3⟩ := h
  refine ⟨h1, h2, ?_⟩
  rcases h3 with h3 | ⟨g, off, cap, hv, hg, hc⟩
  · exact .inl h3
  · refine .inr ⟨g, off, cap, hv, by have := hE.size; omega, fun j s hj => ?_⟩
    have hne : g ≠ b := by
      rintro rfl
      have hcj := hc j s hj
      rcases hb with hb | ⟨x1, y1, T, hb, hx, hy⟩
      · rw [Array.getElem?_eq_none_iff] at hb; omega
      · rw [(block_cells hb).1] at hcj
        generalize off + j = i at hcj
        match i with
        | 0 => simp at hcj; exact hx s hcj
        | 1 => simp at hcj; exact hy s hcj
        | i + 2 => simp at hcj
    exact (World.cell?_of_block (hE.block g hg hne)).trans (hc j s hj)
/-- A box of two cells behind a region: newly made there, or made before and written. -/
structure BoxFin (W0 A B : World) (b T : Nat) (x y : Value) : Prop where
  blk : B.heap[b]? = some (.cells #[x, y] T (0, 0))
  els : Els b A B
  was : A.heap[b]? = none ∨ ∃ x y T, A.heap[b]? = some (.cells #[x, y] T (0, 0)) ∧ (∀ s, x ≠ .string s) ∧ ∀ s, y ≠ .string s
  le : W0.heap.size ≤ b
theorem BoxFin.alloc {W0 A : World} (T : Nat) (x y : Value) (h : W0.heap.size ≤ A.heap.size) : BoxFin W0 A (A.alloc (.cells #[x, y] T)) A.heap.size T x y :=
  ⟨heap_alloc_new A _, ⟨rfl, rfl, rfl, by simp, fun k hk _ => Below.heap_alloc _ _ _ hk⟩, .inl (by simp), h⟩
theorem BoxFin.set {W0 A : World} {b T : Nat} {x0 y0 : Value} (x y : Value) (h : A.heap[b]? = some (.cells #[x0, y0] T (0, 0))) (hx : ∀ s, x0 ≠ .string s) (hy : ∀ s, y0 ≠ .string s) (hb : W0.heap.size ≤ b) : BoxFin W0 A ((A.setCell ⟨b, 0, none⟩ x).setCell ⟨b, 1, none⟩ y) b T x y := by
  have h1 := set_blk h 0 x
  have h2 := set_blk h1 1 y
  simp only [List.setIfInBounds_toArray, List.set_cons_zero, List.set_cons_succ] at h2
  exact ⟨h2, ((Els.refl b A).set 0 x).set 1 y, .inr ⟨_, _, _, h, hx, hy⟩, hb⟩
theorem BoxFin.ins {W0 A B : World} {b T : Nat} {x y : Value} (h : BoxFin W0 A B b T x y) {v : Value} {l : List Ins} (hr : InsRow A A.heap.size v l) : InsRow B B.heap.size v l := hr.els2 h.els (h.was.elim .inl fun ⟨x, y, T, e, _⟩ => .inr ⟨x, y, T, e⟩)
theorem BoxFin.str {W0 A B : World} {b T : Nat} {x y : Value} (h : BoxFin W0 A B b T x y) {v : Value} {l : List ByteArray} (hr : StrRow A A.heap.size v l) : StrRow B B.heap.size v l := hr.els2 h.els h.was
theorem BoxFin.below {W0 A B : World} {b T : Nat} {x y : Value} (h : BoxFin W0 A B b T x y) (hb : Below W0.heap.size W0 A) : Below W0.heap.size W0 B := hb.trans (h.els.below h.le hb.size)

theorem none0_at (w : World) : Calls Try.prog 39 #[.agg #[.int .i64 0, .slice none 0 0]] w fun e w' => e = .returned (.bool true) ∧ Below w.heap.size w w' :=
  none_any 0 _ [] true (by rfl) w ⟨by simp, by simp, .inl ⟨rfl, .inl rfl⟩⟩
theorem stateOk_open {w : World} {s : St} (h32 : s.regs.length = 32) {e : Ending} {w' : World} (h : StateOk w s e w') : ∃ a c, e = .returned (.tuple #[.agg #[.int .i64 s.pos, .slice a 32 c], .int .i64 0]) ∧ StrRow w' w'.heap.size (.slice a 32 c) (s.regs.map TS) ∧ Below w.heap.size w w' := by
  obtain ⟨v, h1, h2, h3⟩ := h
  obtain ⟨a, c, rfl⟩ := h2.len
  rw [List.length_map, h32] at h1 h2
  exact ⟨a, c, h1, h2, h3⟩
theorem first_at {w : World} {v : Value} {l : List Ins} {t : Tr} {S : ByteArray} (ht : t.size ≤ 2000000) (hS : TS t = S) (hv : validB l = true) (hl : InsRow w w.heap.size v l) :
    Calls Try.prog 55 #[v, .string S] w fun e w' => ∃ a c, e = .returned (.tuple #[.agg #[.int .i64 0, .slice a 32 c], .int .i64 0]) ∧ StrRow w' w'.heap.size (.slice a 32 c) ((startS t).regs.map TS) ∧ Below w.heap.size w w' := by
  rw [← hS]; exact (first_ok v l t ht w hl hv).mono fun e w' h => stateOk_open rfl h
theorem step_bad_at {w : World} {v : Value} {l : List Ins} {n : Int} {u : Value} {L : List ByteArray} (hn : i64 n) (h : validB l = false ∨ fitsB n l.length L = false) (hl : InsRow w w.heap.size v l) (hL : StrRow w w.heap.size u L) : Calls Try.prog 47 #[v, .agg #[.int .i64 n, u]] w (StateBad w 1) := by
  by_cases h1 : validB l = false ∨ n < 0 ∨ (l.length : Int) < n ∨ L.length ≠ 32
  · exact rstep_form v l n hn u L w hl hL h1
  · have hv : validB l = true := by cases hq : validB l <;> simp_all
    have hf : fitsB n l.length L = false := by rcases h with h | h; rw [hv] at h; cases h; exact h
    have h0 : 0 ≤ n := by omega
    have h2 : n ≤ l.length := by omega
    have h3 : L.length = 32 := by omega
    have hall : L.all isTree = false := by
      unfold fitsB at hf
      simp only [h0, h2, h3, decide_true, Bool.true_and] at hf
      exact hf
    refine (rstep_any v l hv n h0 h2 u L h3 w hl hL).mono ?_
    intro e w' h
    rw [if_pos hall] at h
    exact h
theorem fitsB_iff {n : Int} {len : Nat} {L : List ByteArray} (h : fitsB n len L = true) : 0 ≤ n ∧ n ≤ len ∧ L.length = 32 ∧ L.all isTree = true := by
  unfold fitsB at h
  simp only [Bool.and_eq_true, decide_eq_true_eq] at h
  exact ⟨h.1.1.1, h.1.1.2, h.1.2, h.2⟩
theorem step_end_at {w : World} {v : Value} {l : List Ins} {n : Int} {u : Value} {L : List ByteArray} (hv : validB l = true) (hf : fitsB n l.length L = true) (he : n = l.length) (hl : InsRow w w.heap.size v l) (hL : StrRow w w.heap.size u L) : Calls Try.prog 47 #[v, .agg #[.int .i64 n, u]] w (StateBad w 6) := by
  obtain ⟨h0, h1, h2, h3⟩ := fitsB_iff hf
  refine (rstep_any v l hv n h0 h1 u L h2 w hl hL).mono ?_
  intro e w' h
  rw [if_neg (by rw [h3]; simp), if_pos he] at h
  exact h
theorem step_big_at {w : World} {v : Value} {l : List Ins} {n : Int} {u : Value} {L : List ByteArray} (hv : validB l = true) (hf : fitsB n l.length L = true) (he : n ≠ l.length) (hs : stepP l ⟨n.toNat, L.map toTr⟩ = none) (hl : InsRow w w.heap.size v l) (hL : StrRow w w.heap.size u L) : Calls Try.prog 47 #[v, .agg #[.int .i64 n, u]] w (StateBad w 3) := by
  obtain ⟨h0, h1, h2, h3⟩ := fitsB_iff hf
  refine (rstep_any v l hv n h0 h1 u L h2 w hl hL).mono ?_
  intro e w' h
  rw [if_neg (by rw [h3]; simp), if_neg he, hs] at h
  exact h
theorem step_ok_at {w : World} {v : Value} {l : List Ins} {n : Int} {u : Value} {L : List ByteArray} (hv : validB l = true) (hf : fitsB n l.length L = true) (he : n ≠ l.length) {s' : St} (h32 : s'.regs.length = 32) (hs : stepP l ⟨n.toNat, L.map toTr⟩ = some s') (hl : InsRow w w.heap.size v l) (hL : StrRow w w.heap.size u L) :
    Calls Try.prog 47 #[v, .agg #[.int .i64 n, u]] w fun e w' => ∃ a c, e = .returned (.tuple #[.agg #[.int .i64 s'.pos, .slice a 32 c], .int .i64 0]) ∧ StrRow w' w'.heap.size (.slice a 32 c) (s'.regs.map TS) ∧ Below w.heap.size w w' := by
  obtain ⟨h0, h1, h2, h3⟩ := fitsB_iff hf
  refine (rstep_any v l hv n h0 h1 u L h2 w hl hL).mono ?_
  intro e w' h
  rw [if_neg (by rw [h3]; simp), if_neg he, hs] at h
  exact stateOk_open h32 h
theorem sameState_at {w : World} {n m : Int} {u v : Value} {l1 l2 : List ByteArray} (hnm : n = m) (hll : l1 = l2) (h1 : StrRow w w.heap.size u l1) (h2 : StrRow w w.heap.size v l2) :
    Calls Try.prog 41 #[.agg #[.int .i64 n, u], .agg #[.int .i64 m, v]] w fun e w' => e = .returned (.bool true) ∧ Below w.heap.size w w' := by
  subst hnm hll
  refine (sameState_any n n u v _ _ w h1 h2).mono ?_
  rintro e w' ⟨rfl, h⟩
  exact ⟨by simp [sameS, sameB_self], h⟩
theorem fits3_at {w : World} {v : Value} {l : List Ins} {n : Int} {u : Value} {L : List ByteArray} (b : Bool) (hb : fitsB n l.length L = b) (hn : i64 n) (hl : InsRow w w.heap.size v l) (hL : StrRow w w.heap.size u L) :
    Calls Try.prog 46 #[v, .agg #[.int .i64 n, u]] w fun e w' => e = .returned (.bool b) ∧ Below w.heap.size w w' := by
  rw [← hb]; exact fits_any v l n u L w hl hn hL
theorem BoxFin.blk' {W0 A B : World} {b T : Nat} {x y : Value} (h : BoxFin W0 A B b T x y) {k : Nat} {o : Obj} (hk : k < W0.heap.size) (ho : A.heap[k]? = some o) : B.heap[k]? = some o := (h.els.block k (Array.getElem?_eq_some_iff.1 ho).1 (by have := h.le; omega)).trans ho
@[elab_as_elim] theorem BoxFin.elimW {W0 A : World} {T : Nat} {x y : Value} {motive : World → Prop} {B : World} {b : Nat} (h : BoxFin W0 A B b T x y) (k : ∀ B, Hid (BoxFin W0 A B b T x y) → motive B) : motive B := k B (Lib.hid h)
@[elab_as_elim] theorem BoxFin.elimB {W0 A : World} {T : Nat} {x y : Value} {motive : Nat → Prop} {B : World} {b : Nat} (h : BoxFin W0 A B b T x y) (k : ∀ b, Hid (BoxFin W0 A B b T x y) → motive b) : motive b := k b (Lib.hid h)
theorem read_hid {w : World} {t : Tr} (ht : t.size ≤ 2000000) : ∀ w', Below w.heap.size w w' → Calls Try.prog 28 #[.string (TS t)] w' fun e w'' => ∃ q, e = .returned (.pointer q) ∧ Hid (NodeP 114 w'' t (.pointer q)) ∧ Below w.heap.size w w'' := fun w' hb =>
  (read_ok t ht w').mono fun e w'' ⟨q, h1, h2, h3⟩ => ⟨q, h1, Lib.hid h2, hb.trans (h3.mono hb.size)⟩
theorem rfirst_hid {w : World} {t : Tr} : ∀ w' q, NodeP 114 w' t (.pointer q) → Below w.heap.size w w' → Calls Try.prog 56 #[.pointer q] w' fun e w'' => ∃ gs, e = .returned (.pointer (some ⟨gs, 0, none⟩)) ∧ Hid (∃ T gr ps, RStP w'' T gs (startS t) (.slice (some ⟨gr, 0, none⟩) 32 32) ps) ∧ Below w.heap.size w w'' := fun w' q hq hb =>
  (rfirst_any t (.pointer q) w' hq).mono fun e w'' ⟨gs, ps, h1, h2, h3⟩ => ⟨gs, h1, Lib.hid ⟨_, _, _, h2⟩, hb.trans (h3.mono hb.size)⟩
theorem rtext_hid {w : World} {n : Nat} {s : St} (z : Int) (hz : (s.pos : Int) = z) (hg : Good n s) : ∀ w' gs, (∃ T gr cp ps, RStP w' T gs s (.slice (some ⟨gr, 0, none⟩) 32 cp) ps) → Below w.heap.size w w' → Calls Try.prog 42 #[.pointer (some ⟨gs, 0, none⟩)] w' fun e w'' => ∃ x, e = .returned (.agg #[.int .i64 z, x]) ∧ Hid (StrRow w'' w''.heap.size x (s.regs.map TS)) ∧ Below w.heap.size w w'' := fun w' gs ⟨T, gr, cp, ps, hs⟩ hb => by
  refine (rtext_any w' T gs gr cp n s ps (by rw [hg.2.1]; exact hs) hg).mono ?_
  rintro e w'' ⟨x, h1, h2, h3⟩
  rw [hz] at h1
  exact ⟨x, h1, Lib.hid h2, hb.trans (h3.mono hb.size)⟩
theorem st_drew {w : World} {gs : Nat} {s : St} (h : ∃ T gr cp ps, RStP w T gs s (.slice (some ⟨gr, 0, none⟩) 32 cp) ps) : ∃ T gr cp ps, RStP w.drew T gs s (.slice (some ⟨gr, 0, none⟩) 32 cp) ps := by
  obtain ⟨T, gr, cp, ps, h⟩ := h
  exact ⟨T, gr, cp, ps, h.kept (Below.refl _ _).drew⟩
theorem sameState_hid {w : World} {n : Int} {u : Value} {L : List ByteArray} (hu : StrRow w w.heap.size u L) : ∀ w' x, StrRow w' w'.heap.size x L → Below w.heap.size w w' → Calls Try.prog 41 #[.agg #[.int .i64 n, u], .agg #[.int .i64 n, x]] w' fun e w'' => e = .returned (.bool true) ∧ Below w.heap.size w w'' := fun w' x hx hb =>
  (sameState_at rfl rfl ((hu.below hb).mono hb.size) hx).mono fun e w'' ⟨h1, h2⟩ => ⟨h1, hb.trans (h2.mono hb.size)⟩
theorem awake_hid (w : World) : ∀ w', Below w.heap.size w w' → Calls Try.prog 25 #[] w' fun e w'' => e = .returned (.bool true) ∧ Below w.heap.size w w'' := awake03_ct w
theorem load_hid {w : World} {v : Value} {l : List Ins} (hl : InsRow w w.heap.size v l) (hv : validB l = true) : ∀ w', Below w.heap.size w w' → Calls Try.prog 26 #[v] w' fun e w'' => ∃ gm tv, e = .returned (.pointer (some ⟨gm, 0, none⟩)) ∧ Hid (RMachP w'' w''.heap.size gm l v tv) ∧ Below w.heap.size w w'' := load_ct hl hv
def RBoth (w : World) (T : Nat) (gm gs : Nat) (l : List Ins) (v tv : Value) (s : St) : Prop := ∃ gr cp ps, T ≤ gr ∧ RStP w T gs s (.slice (some ⟨gr, 0, none⟩) 32 cp) ps ∧ RMachP w T gm l v tv
theorem rread_hid {w : World} {n : Int} {u : Value} {L : List ByteArray} {len : Nat} (hf : fitsB n len L = true) (hu : StrRow w w.heap.size u L) {l : List Ins} {v : Value} : ∀ w' gm tv, RMachP w' w'.heap.size gm l v tv → Below w.heap.size w w' → Calls Try.prog 57 #[.agg #[.int .i64 n, u]] w' fun e w'' => ∃ gs, e = .returned (.pointer (some ⟨gs, 0, none⟩)) ∧ Hid (∃ T, w.heap.size ≤ T ∧ RBoth w'' T gm gs l v tv ⟨n.toNat, L.map toTr⟩) ∧ Below w.heap.size w w'' := fun w' gm tv hm hb => by
  obtain ⟨h0, h1, h2, h3⟩ := fitsB_iff hf
  refine (rread_any n h0 u L h2 h3 w' ((hu.below hb).mono hb.size)).mono ?_
  rintro e w'' ⟨gs, gr, cp, ps, h4, h5, h6, h7⟩
  exact ⟨gs, h4, ⟨_, hb.size, gr, cp, ps, h6, h5, hm.kept h7 (Kept.below h7)⟩, hb.trans (h7.mono hb.size)⟩
theorem fit_good {n : Int} {len : Nat} {L : List ByteArray} (hf : fitsB n len L = true) : Good len ⟨n.toNat, L.map toTr⟩ := by
  obtain ⟨h0, h1, h2, h3⟩ := fitsB_iff hf
  refine ⟨by show n.toNat ≤ len; omega, by simpa using h2, fun t ht => ?_⟩
  obtain ⟨s, hs, rfl⟩ := List.mem_map.1 ht
  obtain ⟨u, rfl, hu⟩ := isTree_get (List.all_eq_true.1 h3 s hs)
  rw [toTr_TS u hu]; exact hu
theorem ended_at3 {w : World} {T gm gs : Nat} {l : List Ins} {v tv : Value} {s : St} (b : Bool) (hb : ((s.pos : Int) == (l.length : Int)) = b) (h : RBoth w T gm gs l v tv s) : Calls Try.prog 58 #[.pointer (some ⟨gm, 0, none⟩), .pointer (some ⟨gs, 0, none⟩)] w fun e w' => e = .returned (.bool b) ∧ Hid (RBoth w' T gm gs l v tv s) ∧ Below w.heap.size w w' := by
  obtain ⟨gr, cp, ps, h1, h2, h3⟩ := h
  refine (rended_any w T gm gs l s v tv _ T ps h3 h2).mono ?_
  rintro e w' ⟨rfl, nq, rfl⟩
  have hq := below_drewN (Below.refl w.heap.size w) nq
  have hq' := below_drewN (Below.refl T w) nq
  exact ⟨by rw [hb], ⟨gr, cp, ps, h1, h2.kept hq, h3.kept hq' (Kept.below hq)⟩, hq⟩
theorem rstepOk_at3 {w : World} {B T gm gs : Nat} {l : List Ins} {v tv : Value} {s s' : St} (h : RBoth w T gm gs l v tv s) (hB : B ≤ T) (hg : Good l.length s) (hv : validB l = true) (he : s.pos ≠ l.length) (hs : stepP l s = some s') : Calls Try.prog 59 #[.pointer (some ⟨gm, 0, none⟩), .pointer (some ⟨gs, 0, none⟩)] w fun e w' => e = .returned (.bool true) ∧ Hid (∃ T gr cp ps, RStP w' T gs s' (.slice (some ⟨gr, 0, none⟩) 32 cp) ps) ∧ Below B w w' := by
  obtain ⟨gr, cp, ps, h1, h2, h3⟩ := h
  have hl4 := validB_len hv
  refine (refstep_some h3 h2 h1 hg (by omega) (validB_all hv) (by have := hg.1; omega) hs).mono ?_
  rintro e w' ⟨h4, h5⟩
  obtain ⟨⟨ps', h6⟩, h7, h8⟩ := h5.out
  exact ⟨h4, ⟨_, _, _, _, h6⟩, h7.mono hB⟩
theorem rstepNo_at3 {w : World} {B T gm gs : Nat} {l : List Ins} {v tv : Value} {s : St} (h : RBoth w T gm gs l v tv s) (hB : B ≤ T) (hg : Good l.length s) (hv : validB l = true) (he : s.pos ≠ l.length) (hs : stepP l s = none) : Calls Try.prog 59 #[.pointer (some ⟨gm, 0, none⟩), .pointer (some ⟨gs, 0, none⟩)] w fun e w' => e = .returned (.bool false) ∧ Below B w w' := by
  obtain ⟨gr, cp, ps, h1, h2, h3⟩ := h
  have hl4 := validB_len hv
  refine (refstep_none h3 h2 h1 hg (by omega) (validB_all hv) (by have := hg.1; omega) hs).mono ?_
  rintro e w' ⟨h4, h5⟩
  exact ⟨h4, h5.out.2.1.mono hB⟩

set_option maxRecDepth 100000 in
set_option maxHeartbeats 8000000 in
theorem law_RunSteps_i {w : World} (v : Value) (l : List Ins) (hl : InsRow w w.heap.size v l) (s : ByteArray) (hs : s.size ≤ 140737488355328) (n : Int) (au : Option Addr) (LL cu : Nat) (L : List ByteArray) (HLL : Hid (L.length = LL)) (hn : i64 n) (hz : L.length ≤ 8796093022208) (hu : StrRow w w.heap.size (.slice au LL cu) L) (hv : validB l = false) :
    Calls Try.prog 15 #[v, .string s, .agg #[.int .i64 n, .slice au LL cu]] w fun e w' => e = .returned (.bool true) ∧ Below w.heap.size w w' := by
    have hl := Lib.hid hl
    have hu := Lib.hid hu
    obtain ⟨W0, hW0⟩ : ∃ W0, w.alloc (.cells #[.int .i64 n, .slice au LL cu] 53) = W0 := ⟨_, rfl⟩
    have hq0 : Below w.heap.size w W0 := by rw [← hW0]; exact alloc_below _ _
    have b5 := Lib.hid (show W0.heap[w.heap.size]? = some (.cells #[.int .i64 n, .slice au LL cu] 53 (0, 0)) by rw [← hW0]; exact box2_new _ _ _ _)
    have hl := Lib.hid ((hl.out.below hq0).mono hq0.size)
    have hu := Lib.hid ((hu.out.below hq0).mono hq0.size)
    have HQ0 := Lib.hid hq0
    have e00 := box2 b5.out
    obtain ⟨e00, e01⟩ := e00
    clear hq0
    go_enter Try.func15, Try.ntmps15
    have kTw : Hid (∀ w', Below W0.heap.size W0 w' → Calls Try.prog 20 #[v] w' fun e w'' => ∃ v', e = .returned v' ∧ Hid (InsRow w'' w''.heap.size v' l) ∧ Hid (Below w'.heap.size w' w'') ∧ Below W0.heap.size W0 w'') := fun w' hb => (twin_any v l w' ((hl.out.below hb).mono hb.size)).mono fun e w'' ⟨v', h1, h2, h3⟩ => ⟨v', h1, h2, h3, hb.trans (h3.mono hb.size)⟩
    have kCo : Hid (∀ w', Below W0.heap.size W0 w' → Calls Try.prog 48 #[.agg #[.int .i64 n, .slice au LL cu]] w' fun e w'' => ∃ ac cc, e = .returned (.agg #[.int .i64 n, .slice ac LL cc]) ∧ Hid (StrRow w'' w''.heap.size (.slice ac LL cc) L) ∧ Hid (Below w'.heap.size w' w'') ∧ Below W0.heap.size W0 w'') := fun w' hb => by
      refine (copied_any n _ L hz w' ((hu.out.below hb).mono hb.size)).mono ?_
      rintro e w'' ⟨a, c, h1, h2, h3⟩
      rw [HLL.out] at h1 h2
      exact ⟨a, c, h1, h2, h3, hb.trans (h3.mono hb.size)⟩
    have KEEP := Lib.hid (box2_keep b5.out)
    go_wp2
    go_region_held3 (fun w' => w'.cell? ⟨w.heap.size, 0, none⟩ = some (.int .i64 n) ∧ w'.cell? ⟨w.heap.size, 1, none⟩ = some (.slice au LL cu))
      (with_reducible (first | exact KEEP.out _ (hzC.alloc hzC.size _) | exact KEEP.out _ (hzC.alloc hzC.size _).drew | exact KEEP.out _ hzC | exact KEEP.out _ hzC.drew | exact KEEP.out _ (hzT.alloc hzT.size _) | exact KEEP.out _ (hzT.alloc hzT.size _).drew | exact KEEP.out _ hzT | exact KEEP.out _ hzT.drew | exact KEEP.out _ (Below.refl _ _) | exact KEEP.out _ (Below.refl _ _).drew | exact KEEP.out _ (alloc_below _ _) | exact KEEP.out _ (alloc_below _ _).drew | (have hzS := hzC; have hzR := hzT; exact KEEP.out _ ((hzS.setCell (by first | exact hzR.size | exact Nat.le_refl _) _).setCell (by first | exact hzR.size | exact Nat.le_refl _) _)) | (have hzS := hzC; have hzR := hzT; exact KEEP.out _ ((hzS.setCell (by first | exact hzR.size | exact Nat.le_refl _) _).setCell (by first | exact hzR.size | exact Nat.le_refl _) _).drew) | fail "keep"))
      ((first
        | ((with_reducible refine (kTw.out _ (by first | exact Below.refl _ _ | exact (Below.refl _ _).drew | exact alloc_below _ _ | exact (alloc_below _ _).drew | exact (Below.refl _ _).drew.alloc (Nat.le_refl _) _)).mono ?_); rintro e wT ⟨v', rfl, hv', hlT, hzT⟩)
        | ((with_reducible refine (kCo.out _ (by first | exact hzT | exact hzT.alloc hzT.size _)).mono ?_); rintro e wC ⟨ac, cc, rfl, hco, hlC, hzC⟩; (first | (have hb8 := blk_lift hlC.out (box2_new wT _ _ _); obtain ⟨k80, k81, k82, k83⟩ := box4 hb8; have hb08 := Lib.hid hb8; clear hb8) | (have hb8 := blk_lift hlC.out (blk_lift_drew hlT.out (box2_new W0 _ _ _)); obtain ⟨k80, k81, k82, k83⟩ := box4 hb8; have hb08 := Lib.hid hb8; clear hb8) | (have hb8 := blk_lift hlC.out (blk_lift hlT.out (box2_new W0 _ _ _)); obtain ⟨k80, k81, k82, k83⟩ := box4 hb8; have hb08 := Lib.hid hb8; clear hb8) | skip))
        | (fail "arm")))
    all_goals (
    (first | (have BF := (BoxFin.set (W0 := W0) (A := wC) (.int .i64 n) (.slice ac LL cc) hb08.out (by intro s h; cases h) (by intro s h; cases h) (by first | exact Nat.le_refl _ | exact hzT.size))) | (have BF := (BoxFin.alloc (W0 := W0) (A := wC) 53 (.int .i64 n) (.slice ac LL cc) hzC.size)))
    refine BoxFin.elimW BF ?_
    clear BF
    intro w8 BF
    refine BoxFin.elimB BF.out ?_
    clear BF
    intro b8 BF
    have b5 := Lib.hid (BF.out.blk' (by rw [← hW0]; simp) (blk_lift hzC b5.out))
    have bf := Lib.hid BF.out.blk
    have hl := Lib.hid (BF.out.ins ((hl.out.below hzC).mono hzC.size))
    have hu := Lib.hid (BF.out.str ((hu.out.below hzC).mono hzC.size))
    have hv' := Lib.hid (BF.out.ins (by first | exact (hv'.out.below hlC.out).mono hlC.out.size | exact (((hv'.out.below (alloc_below _ _)).mono (alloc_below _ _).size).below hlC.out).mono hlC.out.size))
    have hco := Lib.hid (BF.out.str hco.out)
    have ch8 := HQ0.out.trans ((BF.out.below hzC).mono HQ0.out.size)
    clear BF HQ0 hzC hlC hlT hzT kTw kCo KEEP e00 e01
    try clear hb08 k80 k81 k82 k83
    go_wp2_with fail
    refine (first_bad v l _ hs _ hl.out (.inl hv)).mono ?_
    rintro e w9 ⟨rfl, hb9⟩
    have hl := Lib.hid ((hl.out.below hb9).mono hb9.size)
    have hu := Lib.hid ((hu.out.below hb9).mono hb9.size)
    have hv' := Lib.hid ((hv'.out.below hb9).mono hb9.size)
    have hco := Lib.hid ((hco.out.below hb9).mono hb9.size)
    have b5 := Lib.hid (blk_lift hb9 b5.out)
    have bf := Lib.hid (blk_lift hb9 bf.out)
    have ch9 := (ch8).trans (hb9.mono (ch8).size)
    clear ch8
    clear hb9
    have e1 := box2 (blk_lift (alloc_below w9 (.cells #[.int .i64 0, .slice none 0 0] 53)) b5.out)
    obtain ⟨e1a, e1b⟩ := e1
    go_wp2_with fail
    clear e1a e1b
    obtain ⟨w10, hW⟩ : ∃ B, w9.alloc (.cells #[.int .i64 0, .slice none 0 0] 53) = B := ⟨_, rfl⟩
    rw [hW]
    have hbB : Below w9.heap.size w9 w10 := by rw [← hW]; exact alloc_below _ _
    have b9 := Lib.hid (show w10.heap[w9.heap.size]? = some (.cells #[.int .i64 0, .slice none 0 0] 53 (0, 0)) by rw [← hW]; exact box2_new _ _ _ _)
    clear hW
    have hl := Lib.hid ((hl.out.below hbB).mono hbB.size)
    have hu := Lib.hid ((hu.out.below hbB).mono hbB.size)
    have hv' := Lib.hid ((hv'.out.below hbB).mono hbB.size)
    have hco := Lib.hid ((hco.out.below hbB).mono hbB.size)
    have b5 := Lib.hid (blk_lift hbB b5.out)
    have bf := Lib.hid (blk_lift hbB bf.out)
    have ch10 := (ch9).trans (hbB.mono (ch9).size)
    clear ch9
    clear hbB
    refine (step_bad_at hn (.inl hv) hl.out hu.out).mono ?_
    rintro e w11 ⟨rfl, hb11⟩
    have hl := Lib.hid ((hl.out.below hb11).mono hb11.size)
    have hu := Lib.hid ((hu.out.below hb11).mono hb11.size)
    have hv' := Lib.hid ((hv'.out.below hb11).mono hb11.size)
    have hco := Lib.hid ((hco.out.below hb11).mono hb11.size)
    have b5 := Lib.hid (blk_lift hb11 b5.out)
    have bf := Lib.hid (blk_lift hb11 bf.out)
    have b9 := Lib.hid (blk_lift hb11 b9.out)
    have ch11 := (ch10).trans (hb11.mono (ch10).size)
    clear ch10
    clear hb11
    go_wp2_with fail
    obtain ⟨w12, hW⟩ : ∃ B, w11.alloc (.cells #[.int .i64 0, .slice none 0 0] 53) = B := ⟨_, rfl⟩
    rw [hW]
    have hbB : Below w11.heap.size w11 w12 := by rw [← hW]; exact alloc_below _ _
    have b11 := Lib.hid (show w12.heap[w11.heap.size]? = some (.cells #[.int .i64 0, .slice none 0 0] 53 (0, 0)) by rw [← hW]; exact box2_new _ _ _ _)
    clear hW
    have hl := Lib.hid ((hl.out.below hbB).mono hbB.size)
    have hu := Lib.hid ((hu.out.below hbB).mono hbB.size)
    have hv' := Lib.hid ((hv'.out.below hbB).mono hbB.size)
    have hco := Lib.hid ((hco.out.below hbB).mono hbB.size)
    have b5 := Lib.hid (blk_lift hbB b5.out)
    have bf := Lib.hid (blk_lift hbB bf.out)
    have b9 := Lib.hid (blk_lift hbB b9.out)
    have ch12 := (ch11).trans (hbB.mono (ch11).size)
    clear ch11
    clear hbB
    refine (same_self hl.out hv'.out).mono ?_
    rintro e w13 ⟨rfl, hb13⟩
    have hl := Lib.hid ((hl.out.below hb13).mono hb13.size)
    have hu := Lib.hid ((hu.out.below hb13).mono hb13.size)
    have hv' := Lib.hid ((hv'.out.below hb13).mono hb13.size)
    have hco := Lib.hid ((hco.out.below hb13).mono hb13.size)
    have b5 := Lib.hid (blk_lift hb13 b5.out)
    have bf := Lib.hid (blk_lift hb13 bf.out)
    have b9 := Lib.hid (blk_lift hb13 b9.out)
    have b11 := Lib.hid (blk_lift hb13 b11.out)
    have ch13 := (ch12).trans (hb13.mono (ch12).size)
    clear ch12
    clear hb13
    have e1 := box2 b5.out
    obtain ⟨e1a, e1b⟩ := e1
    have e2 := box2 bf.out
    obtain ⟨e2a, e2b⟩ := e2
    go_wp2_with fail
    clear e1a e1b
    clear e2a e2b
    refine (sameState_at rfl rfl hu.out hco.out).mono ?_
    rintro e w14 ⟨rfl, hb14⟩
    have hl := Lib.hid ((hl.out.below hb14).mono hb14.size)
    have hu := Lib.hid ((hu.out.below hb14).mono hb14.size)
    have hv' := Lib.hid ((hv'.out.below hb14).mono hb14.size)
    have hco := Lib.hid ((hco.out.below hb14).mono hb14.size)
    have b5 := Lib.hid (blk_lift hb14 b5.out)
    have bf := Lib.hid (blk_lift hb14 bf.out)
    have b9 := Lib.hid (blk_lift hb14 b9.out)
    have b11 := Lib.hid (blk_lift hb14 b11.out)
    have ch14 := (ch13).trans (hb14.mono (ch13).size)
    clear ch13
    clear hb14
    go_wp2_with fail
    refine (cvalid_at false hv hl.out).mono ?_
    rintro e w15 ⟨rfl, hb15⟩
    have hl := Lib.hid ((hl.out.below hb15).mono hb15.size)
    have hu := Lib.hid ((hu.out.below hb15).mono hb15.size)
    have hv' := Lib.hid ((hv'.out.below hb15).mono hb15.size)
    have hco := Lib.hid ((hco.out.below hb15).mono hb15.size)
    have b5 := Lib.hid (blk_lift hb15 b5.out)
    have bf := Lib.hid (blk_lift hb15 bf.out)
    have b9 := Lib.hid (blk_lift hb15 b9.out)
    have b11 := Lib.hid (blk_lift hb15 b11.out)
    have ch15 := (ch14).trans (hb15.mono (ch14).size)
    clear ch14
    clear hb15
    have e1 := box2 b9.out
    obtain ⟨e1a, e1b⟩ := e1
    go_wp2_with fail
    clear e1a e1b
    refine (none0_at _).mono ?_
    rintro e w16 ⟨rfl, hb16⟩
    have hl := Lib.hid ((hl.out.below hb16).mono hb16.size)
    have hu := Lib.hid ((hu.out.below hb16).mono hb16.size)
    have hv' := Lib.hid ((hv'.out.below hb16).mono hb16.size)
    have hco := Lib.hid ((hco.out.below hb16).mono hb16.size)
    have b5 := Lib.hid (blk_lift hb16 b5.out)
    have bf := Lib.hid (blk_lift hb16 bf.out)
    have b9 := Lib.hid (blk_lift hb16 b9.out)
    have b11 := Lib.hid (blk_lift hb16 b11.out)
    have ch16 := (ch15).trans (hb16.mono (ch15).size)
    clear ch15
    clear hb16
    have e1 := box2 b11.out
    obtain ⟨e1a, e1b⟩ := e1
    go_wp2_with fail
    clear e1a e1b
    refine (none0_at _).mono ?_
    rintro e w17 ⟨rfl, hb17⟩
    have hl := Lib.hid ((hl.out.below hb17).mono hb17.size)
    have hu := Lib.hid ((hu.out.below hb17).mono hb17.size)
    have hv' := Lib.hid ((hv'.out.below hb17).mono hb17.size)
    have hco := Lib.hid ((hco.out.below hb17).mono hb17.size)
    have b5 := Lib.hid (blk_lift hb17 b5.out)
    have bf := Lib.hid (blk_lift hb17 bf.out)
    have b9 := Lib.hid (blk_lift hb17 b9.out)
    have b11 := Lib.hid (blk_lift hb17 b11.out)
    have ch17 := (ch16).trans (hb17.mono (ch16).size)
    clear ch16
    clear hb17
    go_wp2_with fail
    refine (awake03 _).mono ?_
    rintro e w18 ⟨rfl, hb18⟩
    have hl := Lib.hid ((hl.out.below hb18).mono hb18.size)
    have hu := Lib.hid ((hu.out.below hb18).mono hb18.size)
    have hv' := Lib.hid ((hv'.out.below hb18).mono hb18.size)
    have hco := Lib.hid ((hco.out.below hb18).mono hb18.size)
    have b5 := Lib.hid (blk_lift hb18 b5.out)
    have bf := Lib.hid (blk_lift hb18 bf.out)
    have b9 := Lib.hid (blk_lift hb18 b9.out)
    have b11 := Lib.hid (blk_lift hb18 b11.out)
    have ch18 := (ch17).trans (hb18.mono (ch17).size)
    clear ch17
    clear hb18
    go_wp2
    go_ret
    exact ⟨rfl, ch18⟩)

set_option maxRecDepth 100000 in
set_option maxHeartbeats 8000000 in
theorem law_RunSteps_vxbad {w : World} (v : Value) (l : List Ins) (hl : InsRow w w.heap.size v l) (t : Tr) (ht : t.size ≤ 2000000) (hs : (TS t).size ≤ 140737488355328) (hx : isTree (TS t) = true) (n : Int) (au : Option Addr) (LL cu : Nat) (L : List ByteArray) (HLL : Hid (L.length = LL)) (hn : i64 n) (hz : L.length ≤ 8796093022208) (hu : StrRow w w.heap.size (.slice au LL cu) L) (hv : validB l = true) (hf : fitsB n l.length L = false) :
    Calls Try.prog 15 #[v, .string (TS t), .agg #[.int .i64 n, .slice au LL cu]] w fun e w' => e = .returned (.bool true) ∧ Below w.heap.size w w' := by
    have hl := Lib.hid hl
    have hu := Lib.hid hu
    obtain ⟨W0, hW0⟩ : ∃ W0, w.alloc (.cells #[.int .i64 n, .slice au LL cu] 53) = W0 := ⟨_, rfl⟩
    have hq0 : Below w.heap.size w W0 := by rw [← hW0]; exact alloc_below _ _
    have b5 := Lib.hid (show W0.heap[w.heap.size]? = some (.cells #[.int .i64 n, .slice au LL cu] 53 (0, 0)) by rw [← hW0]; exact box2_new _ _ _ _)
    have hl := Lib.hid ((hl.out.below hq0).mono hq0.size)
    have hu := Lib.hid ((hu.out.below hq0).mono hq0.size)
    have HQ0 := Lib.hid hq0
    have e00 := box2 b5.out
    obtain ⟨e00, e01⟩ := e00
    clear hq0
    go_enter Try.func15, Try.ntmps15
    have kTw : Hid (∀ w', Below W0.heap.size W0 w' → Calls Try.prog 20 #[v] w' fun e w'' => ∃ v', e = .returned v' ∧ Hid (InsRow w'' w''.heap.size v' l) ∧ Hid (Below w'.heap.size w' w'') ∧ Below W0.heap.size W0 w'') := fun w' hb => (twin_any v l w' ((hl.out.below hb).mono hb.size)).mono fun e w'' ⟨v', h1, h2, h3⟩ => ⟨v', h1, h2, h3, hb.trans (h3.mono hb.size)⟩
    have kCo : Hid (∀ w', Below W0.heap.size W0 w' → Calls Try.prog 48 #[.agg #[.int .i64 n, .slice au LL cu]] w' fun e w'' => ∃ ac cc, e = .returned (.agg #[.int .i64 n, .slice ac LL cc]) ∧ Hid (StrRow w'' w''.heap.size (.slice ac LL cc) L) ∧ Hid (Below w'.heap.size w' w'') ∧ Below W0.heap.size W0 w'') := fun w' hb => by
      refine (copied_any n _ L hz w' ((hu.out.below hb).mono hb.size)).mono ?_
      rintro e w'' ⟨a, c, h1, h2, h3⟩
      rw [HLL.out] at h1 h2
      exact ⟨a, c, h1, h2, h3, hb.trans (h3.mono hb.size)⟩
    have KEEP := Lib.hid (box2_keep b5.out)
    go_wp2
    go_region_held3 (fun w' => w'.cell? ⟨w.heap.size, 0, none⟩ = some (.int .i64 n) ∧ w'.cell? ⟨w.heap.size, 1, none⟩ = some (.slice au LL cu))
      (with_reducible (first | exact KEEP.out _ (hzC.alloc hzC.size _) | exact KEEP.out _ (hzC.alloc hzC.size _).drew | exact KEEP.out _ hzC | exact KEEP.out _ hzC.drew | exact KEEP.out _ (hzT.alloc hzT.size _) | exact KEEP.out _ (hzT.alloc hzT.size _).drew | exact KEEP.out _ hzT | exact KEEP.out _ hzT.drew | exact KEEP.out _ (Below.refl _ _) | exact KEEP.out _ (Below.refl _ _).drew | exact KEEP.out _ (alloc_below _ _) | exact KEEP.out _ (alloc_below _ _).drew | (have hzS := hzC; have hzR := hzT; exact KEEP.out _ ((hzS.setCell (by first | exact hzR.size | exact Nat.le_refl _) _).setCell (by first | exact hzR.size | exact Nat.le_refl _) _)) | (have hzS := hzC; have hzR := hzT; exact KEEP.out _ ((hzS.setCell (by first | exact hzR.size | exact Nat.le_refl _) _).setCell (by first | exact hzR.size | exact Nat.le_refl _) _).drew) | fail "keep"))
      ((first
        | ((with_reducible refine (kTw.out _ (by first | exact Below.refl _ _ | exact (Below.refl _ _).drew | exact alloc_below _ _ | exact (alloc_below _ _).drew | exact (Below.refl _ _).drew.alloc (Nat.le_refl _) _)).mono ?_); rintro e wT ⟨v', rfl, hv', hlT, hzT⟩)
        | ((with_reducible refine (kCo.out _ (by first | exact hzT | exact hzT.alloc hzT.size _)).mono ?_); rintro e wC ⟨ac, cc, rfl, hco, hlC, hzC⟩; (first | (have hb8 := blk_lift hlC.out (box2_new wT _ _ _); obtain ⟨k80, k81, k82, k83⟩ := box4 hb8; have hb08 := Lib.hid hb8; clear hb8) | (have hb8 := blk_lift hlC.out (blk_lift_drew hlT.out (box2_new W0 _ _ _)); obtain ⟨k80, k81, k82, k83⟩ := box4 hb8; have hb08 := Lib.hid hb8; clear hb8) | (have hb8 := blk_lift hlC.out (blk_lift hlT.out (box2_new W0 _ _ _)); obtain ⟨k80, k81, k82, k83⟩ := box4 hb8; have hb08 := Lib.hid hb8; clear hb8) | skip))
        | (fail "arm")))
    all_goals (
    (first | (have BF := (BoxFin.set (W0 := W0) (A := wC) (.int .i64 n) (.slice ac LL cc) hb08.out (by intro s h; cases h) (by intro s h; cases h) (by first | exact Nat.le_refl _ | exact hzT.size))) | (have BF := (BoxFin.alloc (W0 := W0) (A := wC) 53 (.int .i64 n) (.slice ac LL cc) hzC.size)))
    refine BoxFin.elimW BF ?_
    clear BF
    intro w8 BF
    refine BoxFin.elimB BF.out ?_
    clear BF
    intro b8 BF
    have b5 := Lib.hid (BF.out.blk' (by rw [← hW0]; simp) (blk_lift hzC b5.out))
    have bf := Lib.hid BF.out.blk
    have hl := Lib.hid (BF.out.ins ((hl.out.below hzC).mono hzC.size))
    have hu := Lib.hid (BF.out.str ((hu.out.below hzC).mono hzC.size))
    have hv' := Lib.hid (BF.out.ins (by first | exact (hv'.out.below hlC.out).mono hlC.out.size | exact (((hv'.out.below (alloc_below _ _)).mono (alloc_below _ _).size).below hlC.out).mono hlC.out.size))
    have hco := Lib.hid (BF.out.str hco.out)
    have ch8 := HQ0.out.trans ((BF.out.below hzC).mono HQ0.out.size)
    clear BF HQ0 hzC hlC hlT hzT kTw kCo KEEP e00 e01
    try clear hb08 k80 k81 k82 k83
    go_wp2_with fail
    refine (first_at ht rfl hv hl.out).mono ?_
    rintro e w9 ⟨a1, c1, rfl, hA1, hb9⟩
    have hl := Lib.hid ((hl.out.below hb9).mono hb9.size)
    have hu := Lib.hid ((hu.out.below hb9).mono hb9.size)
    have hv' := Lib.hid ((hv'.out.below hb9).mono hb9.size)
    have hco := Lib.hid ((hco.out.below hb9).mono hb9.size)
    have b5 := Lib.hid (blk_lift hb9 b5.out)
    have bf := Lib.hid (blk_lift hb9 bf.out)
    have ch9 := (ch8).trans (hb9.mono (ch8).size)
    clear ch8
    clear hb9
    have hA1 := Lib.hid hA1
    have e1 := box2 (blk_lift (alloc_below w9 (.cells #[.int .i64 0, .slice a1 32 c1] 53)) b5.out)
    obtain ⟨e1a, e1b⟩ := e1
    go_wp2_with fail
    clear e1a e1b
    obtain ⟨w10, hW⟩ : ∃ B, w9.alloc (.cells #[.int .i64 0, .slice a1 32 c1] 53) = B := ⟨_, rfl⟩
    rw [hW]
    have hbB : Below w9.heap.size w9 w10 := by rw [← hW]; exact alloc_below _ _
    have b9 := Lib.hid (show w10.heap[w9.heap.size]? = some (.cells #[.int .i64 0, .slice a1 32 c1] 53 (0, 0)) by rw [← hW]; exact box2_new _ _ _ _)
    clear hW
    have hl := Lib.hid ((hl.out.below hbB).mono hbB.size)
    have hu := Lib.hid ((hu.out.below hbB).mono hbB.size)
    have hv' := Lib.hid ((hv'.out.below hbB).mono hbB.size)
    have hco := Lib.hid ((hco.out.below hbB).mono hbB.size)
    have b5 := Lib.hid (blk_lift hbB b5.out)
    have bf := Lib.hid (blk_lift hbB bf.out)
    have hA1 := Lib.hid ((hA1.out.below hbB).mono hbB.size)
    have ch10 := (ch9).trans (hbB.mono (ch9).size)
    clear ch9
    clear hbB
    refine (step_bad_at hn (.inr hf) hl.out hu.out).mono ?_
    rintro e w11 ⟨rfl, hb11⟩
    have hl := Lib.hid ((hl.out.below hb11).mono hb11.size)
    have hu := Lib.hid ((hu.out.below hb11).mono hb11.size)
    have hv' := Lib.hid ((hv'.out.below hb11).mono hb11.size)
    have hco := Lib.hid ((hco.out.below hb11).mono hb11.size)
    have b5 := Lib.hid (blk_lift hb11 b5.out)
    have bf := Lib.hid (blk_lift hb11 bf.out)
    have hA1 := Lib.hid ((hA1.out.below hb11).mono hb11.size)
    have b9 := Lib.hid (blk_lift hb11 b9.out)
    have ch11 := (ch10).trans (hb11.mono (ch10).size)
    clear ch10
    clear hb11
    go_wp2_with fail
    obtain ⟨w12, hW⟩ : ∃ B, w11.alloc (.cells #[.int .i64 0, .slice none 0 0] 53) = B := ⟨_, rfl⟩
    rw [hW]
    have hbB : Below w11.heap.size w11 w12 := by rw [← hW]; exact alloc_below _ _
    have b11 := Lib.hid (show w12.heap[w11.heap.size]? = some (.cells #[.int .i64 0, .slice none 0 0] 53 (0, 0)) by rw [← hW]; exact box2_new _ _ _ _)
    clear hW
    have hl := Lib.hid ((hl.out.below hbB).mono hbB.size)
    have hu := Lib.hid ((hu.out.below hbB).mono hbB.size)
    have hv' := Lib.hid ((hv'.out.below hbB).mono hbB.size)
    have hco := Lib.hid ((hco.out.below hbB).mono hbB.size)
    have b5 := Lib.hid (blk_lift hbB b5.out)
    have bf := Lib.hid (blk_lift hbB bf.out)
    have hA1 := Lib.hid ((hA1.out.below hbB).mono hbB.size)
    have b9 := Lib.hid (blk_lift hbB b9.out)
    have ch12 := (ch11).trans (hbB.mono (ch11).size)
    clear ch11
    clear hbB
    refine (same_self hl.out hv'.out).mono ?_
    rintro e w13 ⟨rfl, hb13⟩
    have hl := Lib.hid ((hl.out.below hb13).mono hb13.size)
    have hu := Lib.hid ((hu.out.below hb13).mono hb13.size)
    have hv' := Lib.hid ((hv'.out.below hb13).mono hb13.size)
    have hco := Lib.hid ((hco.out.below hb13).mono hb13.size)
    have b5 := Lib.hid (blk_lift hb13 b5.out)
    have bf := Lib.hid (blk_lift hb13 bf.out)
    have hA1 := Lib.hid ((hA1.out.below hb13).mono hb13.size)
    have b9 := Lib.hid (blk_lift hb13 b9.out)
    have b11 := Lib.hid (blk_lift hb13 b11.out)
    have ch13 := (ch12).trans (hb13.mono (ch12).size)
    clear ch12
    clear hb13
    have e1 := box2 b5.out
    obtain ⟨e1a, e1b⟩ := e1
    have e2 := box2 bf.out
    obtain ⟨e2a, e2b⟩ := e2
    go_wp2_with fail
    clear e1a e1b
    clear e2a e2b
    refine (sameState_at rfl rfl hu.out hco.out).mono ?_
    rintro e w14 ⟨rfl, hb14⟩
    have hl := Lib.hid ((hl.out.below hb14).mono hb14.size)
    have hu := Lib.hid ((hu.out.below hb14).mono hb14.size)
    have hv' := Lib.hid ((hv'.out.below hb14).mono hb14.size)
    have hco := Lib.hid ((hco.out.below hb14).mono hb14.size)
    have b5 := Lib.hid (blk_lift hb14 b5.out)
    have bf := Lib.hid (blk_lift hb14 bf.out)
    have hA1 := Lib.hid ((hA1.out.below hb14).mono hb14.size)
    have b9 := Lib.hid (blk_lift hb14 b9.out)
    have b11 := Lib.hid (blk_lift hb14 b11.out)
    have ch14 := (ch13).trans (hb14.mono (ch13).size)
    clear ch13
    clear hb14
    go_wp2_with fail
    refine (cvalid_at true hv hl.out).mono ?_
    rintro e w15 ⟨rfl, hb15⟩
    have hl := Lib.hid ((hl.out.below hb15).mono hb15.size)
    have hu := Lib.hid ((hu.out.below hb15).mono hb15.size)
    have hv' := Lib.hid ((hv'.out.below hb15).mono hb15.size)
    have hco := Lib.hid ((hco.out.below hb15).mono hb15.size)
    have b5 := Lib.hid (blk_lift hb15 b5.out)
    have bf := Lib.hid (blk_lift hb15 bf.out)
    have hA1 := Lib.hid ((hA1.out.below hb15).mono hb15.size)
    have b9 := Lib.hid (blk_lift hb15 b9.out)
    have b11 := Lib.hid (blk_lift hb15 b11.out)
    have ch15 := (ch14).trans (hb15.mono (ch14).size)
    clear ch14
    clear hb15
    go_wp2_with fail
    refine (tvalid_at _ hs true hx _).mono ?_
    rintro e w16 ⟨rfl, hb16⟩
    have hl := Lib.hid ((hl.out.below hb16).mono hb16.size)
    have hu := Lib.hid ((hu.out.below hb16).mono hb16.size)
    have hv' := Lib.hid ((hv'.out.below hb16).mono hb16.size)
    have hco := Lib.hid ((hco.out.below hb16).mono hb16.size)
    have b5 := Lib.hid (blk_lift hb16 b5.out)
    have bf := Lib.hid (blk_lift hb16 bf.out)
    have hA1 := Lib.hid ((hA1.out.below hb16).mono hb16.size)
    have b9 := Lib.hid (blk_lift hb16 b9.out)
    have b11 := Lib.hid (blk_lift hb16 b11.out)
    have ch16 := (ch15).trans (hb16.mono (ch15).size)
    clear ch15
    clear hb16
    have KEEP := Lib.hid (box2_keep b9.out)
    have kR := Lib.hid (read_hid (w := w16) ht)
    have kF := Lib.hid (rfirst_hid (w := w16) (t := t))
    have kT := Lib.hid (rtext_hid (w := w16) 0 rfl (Good.start 0 t ht))
    have kS := Lib.hid (sameState_hid (w := w16) (n := 0) hA1.out)
    go_wp2
    go_region_held3 (fun w' => w'.cell? ⟨w9.heap.size, 0, none⟩ = some (.int .i64 0) ∧ w'.cell? ⟨w9.heap.size, 1, none⟩ = some (.slice a1 32 c1))
      (with_reducible (first | exact KEEP.out _ (hzd.alloc hzd.size _) | exact KEEP.out _ (hzd.alloc hzd.size _).drew | exact KEEP.out _ hzd | exact KEEP.out _ hzd.drew | exact KEEP.out _ (hzc.alloc hzc.size _) | exact KEEP.out _ (hzc.alloc hzc.size _).drew | exact KEEP.out _ hzc | exact KEEP.out _ hzc.drew | exact KEEP.out _ (hzb.alloc hzb.size _) | exact KEEP.out _ (hzb.alloc hzb.size _).drew | exact KEEP.out _ hzb | exact KEEP.out _ hzb.drew | exact KEEP.out _ (hza.alloc hza.size _) | exact KEEP.out _ (hza.alloc hza.size _).drew | exact KEEP.out _ hza | exact KEEP.out _ hza.drew | exact KEEP.out _ (Below.refl _ _) | exact KEEP.out _ (Below.refl _ _).drew | exact KEEP.out _ (alloc_below _ _) | exact KEEP.out _ (alloc_below _ _).drew | fail "keep"))
      ((first
        | ((with_reducible refine (kR.out _ (by first | exact Below.refl _ _ | exact (Below.refl _ _).drew)).mono ?_); rintro e wa ⟨q, rfl, hq, hza⟩)
        | ((with_reducible refine (kF.out _ q hq.out hza).mono ?_); rintro e wb ⟨gs1, rfl, hs1, hzb⟩)
        | ((with_reducible refine (kT.out _ gs1 (by obtain ⟨T, gr, ps, h⟩ := hs1.out; exact ⟨T, gr, 32, ps, h⟩) hzb).mono ?_); rintro e wc ⟨x1, rfl, hx1, hzc⟩)
        | ((with_reducible refine (kS.out _ x1 hx1.out hzc).mono ?_); rintro e w17 ⟨rfl, hzd⟩)
        | (fail "arm")))
    have hl := Lib.hid ((hl.out.below hzd).mono hzd.size)
    have hu := Lib.hid ((hu.out.below hzd).mono hzd.size)
    have hv' := Lib.hid ((hv'.out.below hzd).mono hzd.size)
    have hco := Lib.hid ((hco.out.below hzd).mono hzd.size)
    have b5 := Lib.hid (blk_lift hzd b5.out)
    have bf := Lib.hid (blk_lift hzd bf.out)
    have hA1 := Lib.hid ((hA1.out.below hzd).mono hzd.size)
    have b9 := Lib.hid (blk_lift hzd b9.out)
    have b11 := Lib.hid (blk_lift hzd b11.out)
    have ch17 := (ch16).trans (hzd.mono (ch16).size)
    clear ch16
    clear kR kF kT kS KEEP hzd
    have e1 := box2 b5.out
    obtain ⟨e1a, e1b⟩ := e1
    go_wp2_with fail
    clear e1a e1b
    refine (fits3_at false hf hn hl.out hu.out).mono ?_
    rintro e w18 ⟨rfl, hb18⟩
    have hl := Lib.hid ((hl.out.below hb18).mono hb18.size)
    have hu := Lib.hid ((hu.out.below hb18).mono hb18.size)
    have hv' := Lib.hid ((hv'.out.below hb18).mono hb18.size)
    have hco := Lib.hid ((hco.out.below hb18).mono hb18.size)
    have b5 := Lib.hid (blk_lift hb18 b5.out)
    have bf := Lib.hid (blk_lift hb18 bf.out)
    have hA1 := Lib.hid ((hA1.out.below hb18).mono hb18.size)
    have b9 := Lib.hid (blk_lift hb18 b9.out)
    have b11 := Lib.hid (blk_lift hb18 b11.out)
    have ch18 := (ch17).trans (hb18.mono (ch17).size)
    clear ch17
    clear hb18
    have e1 := box2 b11.out
    obtain ⟨e1a, e1b⟩ := e1
    go_wp2_with fail
    clear e1a e1b
    refine (none0_at _).mono ?_
    rintro e w19 ⟨rfl, hb19⟩
    have hl := Lib.hid ((hl.out.below hb19).mono hb19.size)
    have hu := Lib.hid ((hu.out.below hb19).mono hb19.size)
    have hv' := Lib.hid ((hv'.out.below hb19).mono hb19.size)
    have hco := Lib.hid ((hco.out.below hb19).mono hb19.size)
    have b5 := Lib.hid (blk_lift hb19 b5.out)
    have bf := Lib.hid (blk_lift hb19 bf.out)
    have hA1 := Lib.hid ((hA1.out.below hb19).mono hb19.size)
    have b9 := Lib.hid (blk_lift hb19 b9.out)
    have b11 := Lib.hid (blk_lift hb19 b11.out)
    have ch19 := (ch18).trans (hb19.mono (ch18).size)
    clear ch18
    clear hb19
    go_wp2_with fail
    refine (awake03 _).mono ?_
    rintro e w20 ⟨rfl, hb20⟩
    have hl := Lib.hid ((hl.out.below hb20).mono hb20.size)
    have hu := Lib.hid ((hu.out.below hb20).mono hb20.size)
    have hv' := Lib.hid ((hv'.out.below hb20).mono hb20.size)
    have hco := Lib.hid ((hco.out.below hb20).mono hb20.size)
    have b5 := Lib.hid (blk_lift hb20 b5.out)
    have bf := Lib.hid (blk_lift hb20 bf.out)
    have hA1 := Lib.hid ((hA1.out.below hb20).mono hb20.size)
    have b9 := Lib.hid (blk_lift hb20 b9.out)
    have b11 := Lib.hid (blk_lift hb20 b11.out)
    have ch20 := (ch19).trans (hb20.mono (ch19).size)
    clear ch19
    clear hb20
    go_wp2
    go_ret
    exact ⟨rfl, ch20⟩)

set_option maxRecDepth 100000 in
set_option maxHeartbeats 8000000 in
theorem law_RunSteps_vxend {w : World} (v : Value) (l : List Ins) (hl : InsRow w w.heap.size v l) (t : Tr) (ht : t.size ≤ 2000000) (hs : (TS t).size ≤ 140737488355328) (hx : isTree (TS t) = true) (n : Int) (au : Option Addr) (LL cu : Nat) (L : List ByteArray) (HLL : Hid (L.length = LL)) (hn : i64 n) (hz : L.length ≤ 8796093022208) (hu : StrRow w w.heap.size (.slice au LL cu) L) (hv : validB l = true) (hf : fitsB n l.length L = true) (he : Hid (n = l.length)) :
    Calls Try.prog 15 #[v, .string (TS t), .agg #[.int .i64 n, .slice au LL cu]] w fun e w' => e = .returned (.bool true) ∧ Below w.heap.size w w' := by
    have hl := Lib.hid hl
    have hu := Lib.hid hu
    obtain ⟨W0, hW0⟩ : ∃ W0, w.alloc (.cells #[.int .i64 n, .slice au LL cu] 53) = W0 := ⟨_, rfl⟩
    have hq0 : Below w.heap.size w W0 := by rw [← hW0]; exact alloc_below _ _
    have b5 := Lib.hid (show W0.heap[w.heap.size]? = some (.cells #[.int .i64 n, .slice au LL cu] 53 (0, 0)) by rw [← hW0]; exact box2_new _ _ _ _)
    have hl := Lib.hid ((hl.out.below hq0).mono hq0.size)
    have hu := Lib.hid ((hu.out.below hq0).mono hq0.size)
    have HQ0 := Lib.hid hq0
    have e00 := box2 b5.out
    obtain ⟨e00, e01⟩ := e00
    clear hq0
    go_enter Try.func15, Try.ntmps15
    have kTw : Hid (∀ w', Below W0.heap.size W0 w' → Calls Try.prog 20 #[v] w' fun e w'' => ∃ v', e = .returned v' ∧ Hid (InsRow w'' w''.heap.size v' l) ∧ Hid (Below w'.heap.size w' w'') ∧ Below W0.heap.size W0 w'') := fun w' hb => (twin_any v l w' ((hl.out.below hb).mono hb.size)).mono fun e w'' ⟨v', h1, h2, h3⟩ => ⟨v', h1, h2, h3, hb.trans (h3.mono hb.size)⟩
    have kCo : Hid (∀ w', Below W0.heap.size W0 w' → Calls Try.prog 48 #[.agg #[.int .i64 n, .slice au LL cu]] w' fun e w'' => ∃ ac cc, e = .returned (.agg #[.int .i64 n, .slice ac LL cc]) ∧ Hid (StrRow w'' w''.heap.size (.slice ac LL cc) L) ∧ Hid (Below w'.heap.size w' w'') ∧ Below W0.heap.size W0 w'') := fun w' hb => by
      refine (copied_any n _ L hz w' ((hu.out.below hb).mono hb.size)).mono ?_
      rintro e w'' ⟨a, c, h1, h2, h3⟩
      rw [HLL.out] at h1 h2
      exact ⟨a, c, h1, h2, h3, hb.trans (h3.mono hb.size)⟩
    have KEEP := Lib.hid (box2_keep b5.out)
    go_wp2
    go_region_held3 (fun w' => w'.cell? ⟨w.heap.size, 0, none⟩ = some (.int .i64 n) ∧ w'.cell? ⟨w.heap.size, 1, none⟩ = some (.slice au LL cu))
      (with_reducible (first | exact KEEP.out _ (hzC.alloc hzC.size _) | exact KEEP.out _ (hzC.alloc hzC.size _).drew | exact KEEP.out _ hzC | exact KEEP.out _ hzC.drew | exact KEEP.out _ (hzT.alloc hzT.size _) | exact KEEP.out _ (hzT.alloc hzT.size _).drew | exact KEEP.out _ hzT | exact KEEP.out _ hzT.drew | exact KEEP.out _ (Below.refl _ _) | exact KEEP.out _ (Below.refl _ _).drew | exact KEEP.out _ (alloc_below _ _) | exact KEEP.out _ (alloc_below _ _).drew | (have hzS := hzC; have hzR := hzT; exact KEEP.out _ ((hzS.setCell (by first | exact hzR.size | exact Nat.le_refl _) _).setCell (by first | exact hzR.size | exact Nat.le_refl _) _)) | (have hzS := hzC; have hzR := hzT; exact KEEP.out _ ((hzS.setCell (by first | exact hzR.size | exact Nat.le_refl _) _).setCell (by first | exact hzR.size | exact Nat.le_refl _) _).drew) | fail "keep"))
      ((first
        | ((with_reducible refine (kTw.out _ (by first | exact Below.refl _ _ | exact (Below.refl _ _).drew | exact alloc_below _ _ | exact (alloc_below _ _).drew | exact (Below.refl _ _).drew.alloc (Nat.le_refl _) _)).mono ?_); rintro e wT ⟨v', rfl, hv', hlT, hzT⟩)
        | ((with_reducible refine (kCo.out _ (by first | exact hzT | exact hzT.alloc hzT.size _)).mono ?_); rintro e wC ⟨ac, cc, rfl, hco, hlC, hzC⟩; (first | (have hb8 := blk_lift hlC.out (box2_new wT _ _ _); obtain ⟨k80, k81, k82, k83⟩ := box4 hb8; have hb08 := Lib.hid hb8; clear hb8) | (have hb8 := blk_lift hlC.out (blk_lift_drew hlT.out (box2_new W0 _ _ _)); obtain ⟨k80, k81, k82, k83⟩ := box4 hb8; have hb08 := Lib.hid hb8; clear hb8) | (have hb8 := blk_lift hlC.out (blk_lift hlT.out (box2_new W0 _ _ _)); obtain ⟨k80, k81, k82, k83⟩ := box4 hb8; have hb08 := Lib.hid hb8; clear hb8) | skip))
        | (fail "arm")))
    all_goals (
    (first | (have BF := (BoxFin.set (W0 := W0) (A := wC) (.int .i64 n) (.slice ac LL cc) hb08.out (by intro s h; cases h) (by intro s h; cases h) (by first | exact Nat.le_refl _ | exact hzT.size))) | (have BF := (BoxFin.alloc (W0 := W0) (A := wC) 53 (.int .i64 n) (.slice ac LL cc) hzC.size)))
    refine BoxFin.elimW BF ?_
    clear BF
    intro w8 BF
    refine BoxFin.elimB BF.out ?_
    clear BF
    intro b8 BF
    have b5 := Lib.hid (BF.out.blk' (by rw [← hW0]; simp) (blk_lift hzC b5.out))
    have bf := Lib.hid BF.out.blk
    have hl := Lib.hid (BF.out.ins ((hl.out.below hzC).mono hzC.size))
    have hu := Lib.hid (BF.out.str ((hu.out.below hzC).mono hzC.size))
    have hv' := Lib.hid (BF.out.ins (by first | exact (hv'.out.below hlC.out).mono hlC.out.size | exact (((hv'.out.below (alloc_below _ _)).mono (alloc_below _ _).size).below hlC.out).mono hlC.out.size))
    have hco := Lib.hid (BF.out.str hco.out)
    have ch8 := HQ0.out.trans ((BF.out.below hzC).mono HQ0.out.size)
    clear BF HQ0 hzC hlC hlT hzT kTw kCo KEEP e00 e01
    try clear hb08 k80 k81 k82 k83
    go_wp2_with fail
    refine (first_at ht rfl hv hl.out).mono ?_
    rintro e w9 ⟨a1, c1, rfl, hA1, hb9⟩
    have hl := Lib.hid ((hl.out.below hb9).mono hb9.size)
    have hu := Lib.hid ((hu.out.below hb9).mono hb9.size)
    have hv' := Lib.hid ((hv'.out.below hb9).mono hb9.size)
    have hco := Lib.hid ((hco.out.below hb9).mono hb9.size)
    have b5 := Lib.hid (blk_lift hb9 b5.out)
    have bf := Lib.hid (blk_lift hb9 bf.out)
    have ch9 := (ch8).trans (hb9.mono (ch8).size)
    clear ch8
    clear hb9
    have hA1 := Lib.hid hA1
    have e1 := box2 (blk_lift (alloc_below w9 (.cells #[.int .i64 0, .slice a1 32 c1] 53)) b5.out)
    obtain ⟨e1a, e1b⟩ := e1
    go_wp2_with fail
    clear e1a e1b
    obtain ⟨w10, hW⟩ : ∃ B, w9.alloc (.cells #[.int .i64 0, .slice a1 32 c1] 53) = B := ⟨_, rfl⟩
    rw [hW]
    have hbB : Below w9.heap.size w9 w10 := by rw [← hW]; exact alloc_below _ _
    have b9 := Lib.hid (show w10.heap[w9.heap.size]? = some (.cells #[.int .i64 0, .slice a1 32 c1] 53 (0, 0)) by rw [← hW]; exact box2_new _ _ _ _)
    clear hW
    have hl := Lib.hid ((hl.out.below hbB).mono hbB.size)
    have hu := Lib.hid ((hu.out.below hbB).mono hbB.size)
    have hv' := Lib.hid ((hv'.out.below hbB).mono hbB.size)
    have hco := Lib.hid ((hco.out.below hbB).mono hbB.size)
    have b5 := Lib.hid (blk_lift hbB b5.out)
    have bf := Lib.hid (blk_lift hbB bf.out)
    have hA1 := Lib.hid ((hA1.out.below hbB).mono hbB.size)
    have ch10 := (ch9).trans (hbB.mono (ch9).size)
    clear ch9
    clear hbB
    refine (step_end_at hv hf he.out hl.out hu.out).mono ?_
    rintro e w11 ⟨rfl, hb11⟩
    have hl := Lib.hid ((hl.out.below hb11).mono hb11.size)
    have hu := Lib.hid ((hu.out.below hb11).mono hb11.size)
    have hv' := Lib.hid ((hv'.out.below hb11).mono hb11.size)
    have hco := Lib.hid ((hco.out.below hb11).mono hb11.size)
    have b5 := Lib.hid (blk_lift hb11 b5.out)
    have bf := Lib.hid (blk_lift hb11 bf.out)
    have hA1 := Lib.hid ((hA1.out.below hb11).mono hb11.size)
    have b9 := Lib.hid (blk_lift hb11 b9.out)
    have ch11 := (ch10).trans (hb11.mono (ch10).size)
    clear ch10
    clear hb11
    go_wp2_with fail
    obtain ⟨w12, hW⟩ : ∃ B, w11.alloc (.cells #[.int .i64 0, .slice none 0 0] 53) = B := ⟨_, rfl⟩
    rw [hW]
    have hbB : Below w11.heap.size w11 w12 := by rw [← hW]; exact alloc_below _ _
    have b11 := Lib.hid (show w12.heap[w11.heap.size]? = some (.cells #[.int .i64 0, .slice none 0 0] 53 (0, 0)) by rw [← hW]; exact box2_new _ _ _ _)
    clear hW
    have hl := Lib.hid ((hl.out.below hbB).mono hbB.size)
    have hu := Lib.hid ((hu.out.below hbB).mono hbB.size)
    have hv' := Lib.hid ((hv'.out.below hbB).mono hbB.size)
    have hco := Lib.hid ((hco.out.below hbB).mono hbB.size)
    have b5 := Lib.hid (blk_lift hbB b5.out)
    have bf := Lib.hid (blk_lift hbB bf.out)
    have hA1 := Lib.hid ((hA1.out.below hbB).mono hbB.size)
    have b9 := Lib.hid (blk_lift hbB b9.out)
    have ch12 := (ch11).trans (hbB.mono (ch11).size)
    clear ch11
    clear hbB
    refine (same_self hl.out hv'.out).mono ?_
    rintro e w13 ⟨rfl, hb13⟩
    have hl := Lib.hid ((hl.out.below hb13).mono hb13.size)
    have hu := Lib.hid ((hu.out.below hb13).mono hb13.size)
    have hv' := Lib.hid ((hv'.out.below hb13).mono hb13.size)
    have hco := Lib.hid ((hco.out.below hb13).mono hb13.size)
    have b5 := Lib.hid (blk_lift hb13 b5.out)
    have bf := Lib.hid (blk_lift hb13 bf.out)
    have hA1 := Lib.hid ((hA1.out.below hb13).mono hb13.size)
    have b9 := Lib.hid (blk_lift hb13 b9.out)
    have b11 := Lib.hid (blk_lift hb13 b11.out)
    have ch13 := (ch12).trans (hb13.mono (ch12).size)
    clear ch12
    clear hb13
    have e1 := box2 b5.out
    obtain ⟨e1a, e1b⟩ := e1
    have e2 := box2 bf.out
    obtain ⟨e2a, e2b⟩ := e2
    go_wp2_with fail
    clear e1a e1b
    clear e2a e2b
    refine (sameState_at rfl rfl hu.out hco.out).mono ?_
    rintro e w14 ⟨rfl, hb14⟩
    have hl := Lib.hid ((hl.out.below hb14).mono hb14.size)
    have hu := Lib.hid ((hu.out.below hb14).mono hb14.size)
    have hv' := Lib.hid ((hv'.out.below hb14).mono hb14.size)
    have hco := Lib.hid ((hco.out.below hb14).mono hb14.size)
    have b5 := Lib.hid (blk_lift hb14 b5.out)
    have bf := Lib.hid (blk_lift hb14 bf.out)
    have hA1 := Lib.hid ((hA1.out.below hb14).mono hb14.size)
    have b9 := Lib.hid (blk_lift hb14 b9.out)
    have b11 := Lib.hid (blk_lift hb14 b11.out)
    have ch14 := (ch13).trans (hb14.mono (ch13).size)
    clear ch13
    clear hb14
    go_wp2_with fail
    refine (cvalid_at true hv hl.out).mono ?_
    rintro e w15 ⟨rfl, hb15⟩
    have hl := Lib.hid ((hl.out.below hb15).mono hb15.size)
    have hu := Lib.hid ((hu.out.below hb15).mono hb15.size)
    have hv' := Lib.hid ((hv'.out.below hb15).mono hb15.size)
    have hco := Lib.hid ((hco.out.below hb15).mono hb15.size)
    have b5 := Lib.hid (blk_lift hb15 b5.out)
    have bf := Lib.hid (blk_lift hb15 bf.out)
    have hA1 := Lib.hid ((hA1.out.below hb15).mono hb15.size)
    have b9 := Lib.hid (blk_lift hb15 b9.out)
    have b11 := Lib.hid (blk_lift hb15 b11.out)
    have ch15 := (ch14).trans (hb15.mono (ch14).size)
    clear ch14
    clear hb15
    go_wp2_with fail
    refine (tvalid_at _ hs true hx _).mono ?_
    rintro e w16 ⟨rfl, hb16⟩
    have hl := Lib.hid ((hl.out.below hb16).mono hb16.size)
    have hu := Lib.hid ((hu.out.below hb16).mono hb16.size)
    have hv' := Lib.hid ((hv'.out.below hb16).mono hb16.size)
    have hco := Lib.hid ((hco.out.below hb16).mono hb16.size)
    have b5 := Lib.hid (blk_lift hb16 b5.out)
    have bf := Lib.hid (blk_lift hb16 bf.out)
    have hA1 := Lib.hid ((hA1.out.below hb16).mono hb16.size)
    have b9 := Lib.hid (blk_lift hb16 b9.out)
    have b11 := Lib.hid (blk_lift hb16 b11.out)
    have ch16 := (ch15).trans (hb16.mono (ch15).size)
    clear ch15
    clear hb16
    have KEEP := Lib.hid (box2_keep b9.out)
    have kR := Lib.hid (read_hid (w := w16) ht)
    have kF := Lib.hid (rfirst_hid (w := w16) (t := t))
    have kT := Lib.hid (rtext_hid (w := w16) 0 rfl (Good.start 0 t ht))
    have kS := Lib.hid (sameState_hid (w := w16) (n := 0) hA1.out)
    go_wp2
    go_region_held3 (fun w' => w'.cell? ⟨w9.heap.size, 0, none⟩ = some (.int .i64 0) ∧ w'.cell? ⟨w9.heap.size, 1, none⟩ = some (.slice a1 32 c1))
      (with_reducible (first | exact KEEP.out _ (hzd.alloc hzd.size _) | exact KEEP.out _ (hzd.alloc hzd.size _).drew | exact KEEP.out _ hzd | exact KEEP.out _ hzd.drew | exact KEEP.out _ (hzc.alloc hzc.size _) | exact KEEP.out _ (hzc.alloc hzc.size _).drew | exact KEEP.out _ hzc | exact KEEP.out _ hzc.drew | exact KEEP.out _ (hzb.alloc hzb.size _) | exact KEEP.out _ (hzb.alloc hzb.size _).drew | exact KEEP.out _ hzb | exact KEEP.out _ hzb.drew | exact KEEP.out _ (hza.alloc hza.size _) | exact KEEP.out _ (hza.alloc hza.size _).drew | exact KEEP.out _ hza | exact KEEP.out _ hza.drew | exact KEEP.out _ (Below.refl _ _) | exact KEEP.out _ (Below.refl _ _).drew | exact KEEP.out _ (alloc_below _ _) | exact KEEP.out _ (alloc_below _ _).drew | fail "keep"))
      ((first
        | ((with_reducible refine (kR.out _ (by first | exact Below.refl _ _ | exact (Below.refl _ _).drew)).mono ?_); rintro e wa ⟨q, rfl, hq, hza⟩)
        | ((with_reducible refine (kF.out _ q hq.out hza).mono ?_); rintro e wb ⟨gs1, rfl, hs1, hzb⟩)
        | ((with_reducible refine (kT.out _ gs1 (by obtain ⟨T, gr, ps, h⟩ := hs1.out; exact ⟨T, gr, 32, ps, h⟩) hzb).mono ?_); rintro e wc ⟨x1, rfl, hx1, hzc⟩)
        | ((with_reducible refine (kS.out _ x1 hx1.out hzc).mono ?_); rintro e w17 ⟨rfl, hzd⟩)
        | (fail "arm")))
    have hl := Lib.hid ((hl.out.below hzd).mono hzd.size)
    have hu := Lib.hid ((hu.out.below hzd).mono hzd.size)
    have hv' := Lib.hid ((hv'.out.below hzd).mono hzd.size)
    have hco := Lib.hid ((hco.out.below hzd).mono hzd.size)
    have b5 := Lib.hid (blk_lift hzd b5.out)
    have bf := Lib.hid (blk_lift hzd bf.out)
    have hA1 := Lib.hid ((hA1.out.below hzd).mono hzd.size)
    have b9 := Lib.hid (blk_lift hzd b9.out)
    have b11 := Lib.hid (blk_lift hzd b11.out)
    have ch17 := (ch16).trans (hzd.mono (ch16).size)
    clear ch16
    clear kR kF kT kS KEEP hzd
    have e1 := box2 b5.out
    obtain ⟨e1a, e1b⟩ := e1
    go_wp2_with fail
    clear e1a e1b
    refine (fits3_at true hf hn hl.out hu.out).mono ?_
    rintro e w18 ⟨rfl, hb18⟩
    have hl := Lib.hid ((hl.out.below hb18).mono hb18.size)
    have hu := Lib.hid ((hu.out.below hb18).mono hb18.size)
    have hv' := Lib.hid ((hv'.out.below hb18).mono hb18.size)
    have hco := Lib.hid ((hco.out.below hb18).mono hb18.size)
    have b5 := Lib.hid (blk_lift hb18 b5.out)
    have bf := Lib.hid (blk_lift hb18 bf.out)
    have hA1 := Lib.hid ((hA1.out.below hb18).mono hb18.size)
    have b9 := Lib.hid (blk_lift hb18 b9.out)
    have b11 := Lib.hid (blk_lift hb18 b11.out)
    have ch18 := (ch17).trans (hb18.mono (ch17).size)
    clear ch17
    clear hb18
    have KEEP := Lib.hid (box2_keep b5.out)
    have kL := Lib.hid (load_hid (w := w18) hl.out hv)
    have kD := Lib.hid (rread_hid (w := w18) hf hu.out (l := l) (v := v))
    go_wp2
    go_region_held3 (fun w' => w'.cell? ⟨w.heap.size, 0, none⟩ = some (.int .i64 n) ∧ w'.cell? ⟨w.heap.size, 1, none⟩ = some (.slice au LL cu))
      (with_reducible (first | exact KEEP.out _ (hzd.alloc hzd.size _) | exact KEEP.out _ (hzd.alloc hzd.size _).drew | exact KEEP.out _ hzd | exact KEEP.out _ hzd.drew | exact KEEP.out _ (hza.alloc hza.size _) | exact KEEP.out _ (hza.alloc hza.size _).drew | exact KEEP.out _ hza | exact KEEP.out _ hza.drew | exact KEEP.out _ (Below.refl _ _) | exact KEEP.out _ (Below.refl _ _).drew | exact KEEP.out _ (alloc_below _ _) | exact KEEP.out _ (alloc_below _ _).drew | fail "keep"))
      ((first
        | ((with_reducible refine (kL.out _ (by first | exact Below.refl _ _ | exact (Below.refl _ _).drew)).mono ?_); rintro e wa ⟨gm, tv, rfl, hm, hza⟩)
        | ((with_reducible refine (kD.out _ gm tv hm.out hza).mono ?_); rintro e w19 ⟨gs, rfl, hbo, hzd⟩)
        | (fail "arm")))
    have hl := Lib.hid ((hl.out.below hzd).mono hzd.size)
    have hu := Lib.hid ((hu.out.below hzd).mono hzd.size)
    have hv' := Lib.hid ((hv'.out.below hzd).mono hzd.size)
    have hco := Lib.hid ((hco.out.below hzd).mono hzd.size)
    have b5 := Lib.hid (blk_lift hzd b5.out)
    have bf := Lib.hid (blk_lift hzd bf.out)
    have hA1 := Lib.hid ((hA1.out.below hzd).mono hzd.size)
    have b9 := Lib.hid (blk_lift hzd b9.out)
    have b11 := Lib.hid (blk_lift hzd b11.out)
    have ch19 := (ch18).trans (hzd.mono (ch18).size)
    clear ch18
    clear kL kD KEEP hzd
    obtain ⟨T, hT, hbo⟩ := hbo.out
    have hT : w18.heap.size ≤ T := hT
    go_wp2_with fail
    refine (ended_at3 true (by have h1 := he.out; have h2 := (fitsB_iff hf).1; show (((n.toNat : Nat) : Int) == (l.length : Int)) = _; simp; omega) hbo).mono ?_
    rintro e w20 ⟨rfl, hbo2, hb20⟩
    have hl := Lib.hid ((hl.out.below hb20).mono hb20.size)
    have hu := Lib.hid ((hu.out.below hb20).mono hb20.size)
    have hv' := Lib.hid ((hv'.out.below hb20).mono hb20.size)
    have hco := Lib.hid ((hco.out.below hb20).mono hb20.size)
    have b5 := Lib.hid (blk_lift hb20 b5.out)
    have bf := Lib.hid (blk_lift hb20 bf.out)
    have hA1 := Lib.hid ((hA1.out.below hb20).mono hb20.size)
    have b9 := Lib.hid (blk_lift hb20 b9.out)
    have b11 := Lib.hid (blk_lift hb20 b11.out)
    have ch20 := (ch19).trans (hb20.mono (ch19).size)
    clear ch19
    clear hb20
    have e1 := box2 b11.out
    obtain ⟨e1a, e1b⟩ := e1
    go_wp2_with fail
    clear e1a e1b
    refine (none0_at _).mono ?_
    rintro e w21 ⟨rfl, hb21⟩
    have hl := Lib.hid ((hl.out.below hb21).mono hb21.size)
    have hu := Lib.hid ((hu.out.below hb21).mono hb21.size)
    have hv' := Lib.hid ((hv'.out.below hb21).mono hb21.size)
    have hco := Lib.hid ((hco.out.below hb21).mono hb21.size)
    have b5 := Lib.hid (blk_lift hb21 b5.out)
    have bf := Lib.hid (blk_lift hb21 bf.out)
    have hA1 := Lib.hid ((hA1.out.below hb21).mono hb21.size)
    have b9 := Lib.hid (blk_lift hb21 b9.out)
    have b11 := Lib.hid (blk_lift hb21 b11.out)
    have ch21 := (ch20).trans (hb21.mono (ch20).size)
    clear ch20
    clear hb21
    go_wp2_with fail
    refine (awake03 _).mono ?_
    rintro e w22 ⟨rfl, hb22⟩
    have hl := Lib.hid ((hl.out.below hb22).mono hb22.size)
    have hu := Lib.hid ((hu.out.below hb22).mono hb22.size)
    have hv' := Lib.hid ((hv'.out.below hb22).mono hb22.size)
    have hco := Lib.hid ((hco.out.below hb22).mono hb22.size)
    have b5 := Lib.hid (blk_lift hb22 b5.out)
    have bf := Lib.hid (blk_lift hb22 bf.out)
    have hA1 := Lib.hid ((hA1.out.below hb22).mono hb22.size)
    have b9 := Lib.hid (blk_lift hb22 b9.out)
    have b11 := Lib.hid (blk_lift hb22 b11.out)
    have ch22 := (ch21).trans (hb22.mono (ch21).size)
    clear ch21
    clear hb22
    go_wp2
    go_ret
    exact ⟨rfl, ch22⟩)

set_option maxRecDepth 100000 in
set_option maxHeartbeats 8000000 in
theorem law_RunSteps_vxbig {w : World} (v : Value) (l : List Ins) (hl : InsRow w w.heap.size v l) (t : Tr) (ht : t.size ≤ 2000000) (hs : (TS t).size ≤ 140737488355328) (hx : isTree (TS t) = true) (n : Int) (au : Option Addr) (LL cu : Nat) (L : List ByteArray) (HLL : Hid (L.length = LL)) (hn : i64 n) (hz : L.length ≤ 8796093022208) (hu : StrRow w w.heap.size (.slice au LL cu) L) (hv : validB l = true) (hf : fitsB n l.length L = true) (he : Hid (n ≠ l.length)) (hst : stepP l ⟨n.toNat, L.map toTr⟩ = none) :
    Calls Try.prog 15 #[v, .string (TS t), .agg #[.int .i64 n, .slice au LL cu]] w fun e w' => e = .returned (.bool true) ∧ Below w.heap.size w w' := by
    have hl := Lib.hid hl
    have hu := Lib.hid hu
    obtain ⟨W0, hW0⟩ : ∃ W0, w.alloc (.cells #[.int .i64 n, .slice au LL cu] 53) = W0 := ⟨_, rfl⟩
    have hq0 : Below w.heap.size w W0 := by rw [← hW0]; exact alloc_below _ _
    have b5 := Lib.hid (show W0.heap[w.heap.size]? = some (.cells #[.int .i64 n, .slice au LL cu] 53 (0, 0)) by rw [← hW0]; exact box2_new _ _ _ _)
    have hl := Lib.hid ((hl.out.below hq0).mono hq0.size)
    have hu := Lib.hid ((hu.out.below hq0).mono hq0.size)
    have HQ0 := Lib.hid hq0
    have e00 := box2 b5.out
    obtain ⟨e00, e01⟩ := e00
    clear hq0
    go_enter Try.func15, Try.ntmps15
    have kTw : Hid (∀ w', Below W0.heap.size W0 w' → Calls Try.prog 20 #[v] w' fun e w'' => ∃ v', e = .returned v' ∧ Hid (InsRow w'' w''.heap.size v' l) ∧ Hid (Below w'.heap.size w' w'') ∧ Below W0.heap.size W0 w'') := fun w' hb => (twin_any v l w' ((hl.out.below hb).mono hb.size)).mono fun e w'' ⟨v', h1, h2, h3⟩ => ⟨v', h1, h2, h3, hb.trans (h3.mono hb.size)⟩
    have kCo : Hid (∀ w', Below W0.heap.size W0 w' → Calls Try.prog 48 #[.agg #[.int .i64 n, .slice au LL cu]] w' fun e w'' => ∃ ac cc, e = .returned (.agg #[.int .i64 n, .slice ac LL cc]) ∧ Hid (StrRow w'' w''.heap.size (.slice ac LL cc) L) ∧ Hid (Below w'.heap.size w' w'') ∧ Below W0.heap.size W0 w'') := fun w' hb => by
      refine (copied_any n _ L hz w' ((hu.out.below hb).mono hb.size)).mono ?_
      rintro e w'' ⟨a, c, h1, h2, h3⟩
      rw [HLL.out] at h1 h2
      exact ⟨a, c, h1, h2, h3, hb.trans (h3.mono hb.size)⟩
    have KEEP := Lib.hid (box2_keep b5.out)
    go_wp2
    go_region_held3 (fun w' => w'.cell? ⟨w.heap.size, 0, none⟩ = some (.int .i64 n) ∧ w'.cell? ⟨w.heap.size, 1, none⟩ = some (.slice au LL cu))
      (with_reducible (first | exact KEEP.out _ (hzC.alloc hzC.size _) | exact KEEP.out _ (hzC.alloc hzC.size _).drew | exact KEEP.out _ hzC | exact KEEP.out _ hzC.drew | exact KEEP.out _ (hzT.alloc hzT.size _) | exact KEEP.out _ (hzT.alloc hzT.size _).drew | exact KEEP.out _ hzT | exact KEEP.out _ hzT.drew | exact KEEP.out _ (Below.refl _ _) | exact KEEP.out _ (Below.refl _ _).drew | exact KEEP.out _ (alloc_below _ _) | exact KEEP.out _ (alloc_below _ _).drew | (have hzS := hzC; have hzR := hzT; exact KEEP.out _ ((hzS.setCell (by first | exact hzR.size | exact Nat.le_refl _) _).setCell (by first | exact hzR.size | exact Nat.le_refl _) _)) | (have hzS := hzC; have hzR := hzT; exact KEEP.out _ ((hzS.setCell (by first | exact hzR.size | exact Nat.le_refl _) _).setCell (by first | exact hzR.size | exact Nat.le_refl _) _).drew) | fail "keep"))
      ((first
        | ((with_reducible refine (kTw.out _ (by first | exact Below.refl _ _ | exact (Below.refl _ _).drew | exact alloc_below _ _ | exact (alloc_below _ _).drew | exact (Below.refl _ _).drew.alloc (Nat.le_refl _) _)).mono ?_); rintro e wT ⟨v', rfl, hv', hlT, hzT⟩)
        | ((with_reducible refine (kCo.out _ (by first | exact hzT | exact hzT.alloc hzT.size _)).mono ?_); rintro e wC ⟨ac, cc, rfl, hco, hlC, hzC⟩; (first | (have hb8 := blk_lift hlC.out (box2_new wT _ _ _); obtain ⟨k80, k81, k82, k83⟩ := box4 hb8; have hb08 := Lib.hid hb8; clear hb8) | (have hb8 := blk_lift hlC.out (blk_lift_drew hlT.out (box2_new W0 _ _ _)); obtain ⟨k80, k81, k82, k83⟩ := box4 hb8; have hb08 := Lib.hid hb8; clear hb8) | (have hb8 := blk_lift hlC.out (blk_lift hlT.out (box2_new W0 _ _ _)); obtain ⟨k80, k81, k82, k83⟩ := box4 hb8; have hb08 := Lib.hid hb8; clear hb8) | skip))
        | (fail "arm")))
    all_goals (
    (first | (have BF := (BoxFin.set (W0 := W0) (A := wC) (.int .i64 n) (.slice ac LL cc) hb08.out (by intro s h; cases h) (by intro s h; cases h) (by first | exact Nat.le_refl _ | exact hzT.size))) | (have BF := (BoxFin.alloc (W0 := W0) (A := wC) 53 (.int .i64 n) (.slice ac LL cc) hzC.size)))
    refine BoxFin.elimW BF ?_
    clear BF
    intro w8 BF
    refine BoxFin.elimB BF.out ?_
    clear BF
    intro b8 BF
    have b5 := Lib.hid (BF.out.blk' (by rw [← hW0]; simp) (blk_lift hzC b5.out))
    have bf := Lib.hid BF.out.blk
    have hl := Lib.hid (BF.out.ins ((hl.out.below hzC).mono hzC.size))
    have hu := Lib.hid (BF.out.str ((hu.out.below hzC).mono hzC.size))
    have hv' := Lib.hid (BF.out.ins (by first | exact (hv'.out.below hlC.out).mono hlC.out.size | exact (((hv'.out.below (alloc_below _ _)).mono (alloc_below _ _).size).below hlC.out).mono hlC.out.size))
    have hco := Lib.hid (BF.out.str hco.out)
    have ch8 := HQ0.out.trans ((BF.out.below hzC).mono HQ0.out.size)
    clear BF HQ0 hzC hlC hlT hzT kTw kCo KEEP e00 e01
    try clear hb08 k80 k81 k82 k83
    go_wp2_with fail
    refine (first_at ht rfl hv hl.out).mono ?_
    rintro e w9 ⟨a1, c1, rfl, hA1, hb9⟩
    have hl := Lib.hid ((hl.out.below hb9).mono hb9.size)
    have hu := Lib.hid ((hu.out.below hb9).mono hb9.size)
    have hv' := Lib.hid ((hv'.out.below hb9).mono hb9.size)
    have hco := Lib.hid ((hco.out.below hb9).mono hb9.size)
    have b5 := Lib.hid (blk_lift hb9 b5.out)
    have bf := Lib.hid (blk_lift hb9 bf.out)
    have ch9 := (ch8).trans (hb9.mono (ch8).size)
    clear ch8
    clear hb9
    have hA1 := Lib.hid hA1
    have e1 := box2 (blk_lift (alloc_below w9 (.cells #[.int .i64 0, .slice a1 32 c1] 53)) b5.out)
    obtain ⟨e1a, e1b⟩ := e1
    go_wp2_with fail
    clear e1a e1b
    obtain ⟨w10, hW⟩ : ∃ B, w9.alloc (.cells #[.int .i64 0, .slice a1 32 c1] 53) = B := ⟨_, rfl⟩
    rw [hW]
    have hbB : Below w9.heap.size w9 w10 := by rw [← hW]; exact alloc_below _ _
    have b9 := Lib.hid (show w10.heap[w9.heap.size]? = some (.cells #[.int .i64 0, .slice a1 32 c1] 53 (0, 0)) by rw [← hW]; exact box2_new _ _ _ _)
    clear hW
    have hl := Lib.hid ((hl.out.below hbB).mono hbB.size)
    have hu := Lib.hid ((hu.out.below hbB).mono hbB.size)
    have hv' := Lib.hid ((hv'.out.below hbB).mono hbB.size)
    have hco := Lib.hid ((hco.out.below hbB).mono hbB.size)
    have b5 := Lib.hid (blk_lift hbB b5.out)
    have bf := Lib.hid (blk_lift hbB bf.out)
    have hA1 := Lib.hid ((hA1.out.below hbB).mono hbB.size)
    have ch10 := (ch9).trans (hbB.mono (ch9).size)
    clear ch9
    clear hbB
    refine (step_big_at hv hf he.out hst hl.out hu.out).mono ?_
    rintro e w11 ⟨rfl, hb11⟩
    have hl := Lib.hid ((hl.out.below hb11).mono hb11.size)
    have hu := Lib.hid ((hu.out.below hb11).mono hb11.size)
    have hv' := Lib.hid ((hv'.out.below hb11).mono hb11.size)
    have hco := Lib.hid ((hco.out.below hb11).mono hb11.size)
    have b5 := Lib.hid (blk_lift hb11 b5.out)
    have bf := Lib.hid (blk_lift hb11 bf.out)
    have hA1 := Lib.hid ((hA1.out.below hb11).mono hb11.size)
    have b9 := Lib.hid (blk_lift hb11 b9.out)
    have ch11 := (ch10).trans (hb11.mono (ch10).size)
    clear ch10
    clear hb11
    go_wp2_with fail
    obtain ⟨w12, hW⟩ : ∃ B, w11.alloc (.cells #[.int .i64 0, .slice none 0 0] 53) = B := ⟨_, rfl⟩
    rw [hW]
    have hbB : Below w11.heap.size w11 w12 := by rw [← hW]; exact alloc_below _ _
    have b11 := Lib.hid (show w12.heap[w11.heap.size]? = some (.cells #[.int .i64 0, .slice none 0 0] 53 (0, 0)) by rw [← hW]; exact box2_new _ _ _ _)
    clear hW
    have hl := Lib.hid ((hl.out.below hbB).mono hbB.size)
    have hu := Lib.hid ((hu.out.below hbB).mono hbB.size)
    have hv' := Lib.hid ((hv'.out.below hbB).mono hbB.size)
    have hco := Lib.hid ((hco.out.below hbB).mono hbB.size)
    have b5 := Lib.hid (blk_lift hbB b5.out)
    have bf := Lib.hid (blk_lift hbB bf.out)
    have hA1 := Lib.hid ((hA1.out.below hbB).mono hbB.size)
    have b9 := Lib.hid (blk_lift hbB b9.out)
    have ch12 := (ch11).trans (hbB.mono (ch11).size)
    clear ch11
    clear hbB
    refine (same_self hl.out hv'.out).mono ?_
    rintro e w13 ⟨rfl, hb13⟩
    have hl := Lib.hid ((hl.out.below hb13).mono hb13.size)
    have hu := Lib.hid ((hu.out.below hb13).mono hb13.size)
    have hv' := Lib.hid ((hv'.out.below hb13).mono hb13.size)
    have hco := Lib.hid ((hco.out.below hb13).mono hb13.size)
    have b5 := Lib.hid (blk_lift hb13 b5.out)
    have bf := Lib.hid (blk_lift hb13 bf.out)
    have hA1 := Lib.hid ((hA1.out.below hb13).mono hb13.size)
    have b9 := Lib.hid (blk_lift hb13 b9.out)
    have b11 := Lib.hid (blk_lift hb13 b11.out)
    have ch13 := (ch12).trans (hb13.mono (ch12).size)
    clear ch12
    clear hb13
    have e1 := box2 b5.out
    obtain ⟨e1a, e1b⟩ := e1
    have e2 := box2 bf.out
    obtain ⟨e2a, e2b⟩ := e2
    go_wp2_with fail
    clear e1a e1b
    clear e2a e2b
    refine (sameState_at rfl rfl hu.out hco.out).mono ?_
    rintro e w14 ⟨rfl, hb14⟩
    have hl := Lib.hid ((hl.out.below hb14).mono hb14.size)
    have hu := Lib.hid ((hu.out.below hb14).mono hb14.size)
    have hv' := Lib.hid ((hv'.out.below hb14).mono hb14.size)
    have hco := Lib.hid ((hco.out.below hb14).mono hb14.size)
    have b5 := Lib.hid (blk_lift hb14 b5.out)
    have bf := Lib.hid (blk_lift hb14 bf.out)
    have hA1 := Lib.hid ((hA1.out.below hb14).mono hb14.size)
    have b9 := Lib.hid (blk_lift hb14 b9.out)
    have b11 := Lib.hid (blk_lift hb14 b11.out)
    have ch14 := (ch13).trans (hb14.mono (ch13).size)
    clear ch13
    clear hb14
    go_wp2_with fail
    refine (cvalid_at true hv hl.out).mono ?_
    rintro e w15 ⟨rfl, hb15⟩
    have hl := Lib.hid ((hl.out.below hb15).mono hb15.size)
    have hu := Lib.hid ((hu.out.below hb15).mono hb15.size)
    have hv' := Lib.hid ((hv'.out.below hb15).mono hb15.size)
    have hco := Lib.hid ((hco.out.below hb15).mono hb15.size)
    have b5 := Lib.hid (blk_lift hb15 b5.out)
    have bf := Lib.hid (blk_lift hb15 bf.out)
    have hA1 := Lib.hid ((hA1.out.below hb15).mono hb15.size)
    have b9 := Lib.hid (blk_lift hb15 b9.out)
    have b11 := Lib.hid (blk_lift hb15 b11.out)
    have ch15 := (ch14).trans (hb15.mono (ch14).size)
    clear ch14
    clear hb15
    go_wp2_with fail
    refine (tvalid_at _ hs true hx _).mono ?_
    rintro e w16 ⟨rfl, hb16⟩
    have hl := Lib.hid ((hl.out.below hb16).mono hb16.size)
    have hu := Lib.hid ((hu.out.below hb16).mono hb16.size)
    have hv' := Lib.hid ((hv'.out.below hb16).mono hb16.size)
    have hco := Lib.hid ((hco.out.below hb16).mono hb16.size)
    have b5 := Lib.hid (blk_lift hb16 b5.out)
    have bf := Lib.hid (blk_lift hb16 bf.out)
    have hA1 := Lib.hid ((hA1.out.below hb16).mono hb16.size)
    have b9 := Lib.hid (blk_lift hb16 b9.out)
    have b11 := Lib.hid (blk_lift hb16 b11.out)
    have ch16 := (ch15).trans (hb16.mono (ch15).size)
    clear ch15
    clear hb16
    have KEEP := Lib.hid (box2_keep b9.out)
    have kR := Lib.hid (read_hid (w := w16) ht)
    have kF := Lib.hid (rfirst_hid (w := w16) (t := t))
    have kT := Lib.hid (rtext_hid (w := w16) 0 rfl (Good.start 0 t ht))
    have kS := Lib.hid (sameState_hid (w := w16) (n := 0) hA1.out)
    go_wp2
    go_region_held3 (fun w' => w'.cell? ⟨w9.heap.size, 0, none⟩ = some (.int .i64 0) ∧ w'.cell? ⟨w9.heap.size, 1, none⟩ = some (.slice a1 32 c1))
      (with_reducible (first | exact KEEP.out _ (hzd.alloc hzd.size _) | exact KEEP.out _ (hzd.alloc hzd.size _).drew | exact KEEP.out _ hzd | exact KEEP.out _ hzd.drew | exact KEEP.out _ (hzc.alloc hzc.size _) | exact KEEP.out _ (hzc.alloc hzc.size _).drew | exact KEEP.out _ hzc | exact KEEP.out _ hzc.drew | exact KEEP.out _ (hzb.alloc hzb.size _) | exact KEEP.out _ (hzb.alloc hzb.size _).drew | exact KEEP.out _ hzb | exact KEEP.out _ hzb.drew | exact KEEP.out _ (hza.alloc hza.size _) | exact KEEP.out _ (hza.alloc hza.size _).drew | exact KEEP.out _ hza | exact KEEP.out _ hza.drew | exact KEEP.out _ (Below.refl _ _) | exact KEEP.out _ (Below.refl _ _).drew | exact KEEP.out _ (alloc_below _ _) | exact KEEP.out _ (alloc_below _ _).drew | fail "keep"))
      ((first
        | ((with_reducible refine (kR.out _ (by first | exact Below.refl _ _ | exact (Below.refl _ _).drew)).mono ?_); rintro e wa ⟨q, rfl, hq, hza⟩)
        | ((with_reducible refine (kF.out _ q hq.out hza).mono ?_); rintro e wb ⟨gs1, rfl, hs1, hzb⟩)
        | ((with_reducible refine (kT.out _ gs1 (by obtain ⟨T, gr, ps, h⟩ := hs1.out; exact ⟨T, gr, 32, ps, h⟩) hzb).mono ?_); rintro e wc ⟨x1, rfl, hx1, hzc⟩)
        | ((with_reducible refine (kS.out _ x1 hx1.out hzc).mono ?_); rintro e w17 ⟨rfl, hzd⟩)
        | (fail "arm")))
    have hl := Lib.hid ((hl.out.below hzd).mono hzd.size)
    have hu := Lib.hid ((hu.out.below hzd).mono hzd.size)
    have hv' := Lib.hid ((hv'.out.below hzd).mono hzd.size)
    have hco := Lib.hid ((hco.out.below hzd).mono hzd.size)
    have b5 := Lib.hid (blk_lift hzd b5.out)
    have bf := Lib.hid (blk_lift hzd bf.out)
    have hA1 := Lib.hid ((hA1.out.below hzd).mono hzd.size)
    have b9 := Lib.hid (blk_lift hzd b9.out)
    have b11 := Lib.hid (blk_lift hzd b11.out)
    have ch17 := (ch16).trans (hzd.mono (ch16).size)
    clear ch16
    clear kR kF kT kS KEEP hzd
    have e1 := box2 b5.out
    obtain ⟨e1a, e1b⟩ := e1
    go_wp2_with fail
    clear e1a e1b
    refine (fits3_at true hf hn hl.out hu.out).mono ?_
    rintro e w18 ⟨rfl, hb18⟩
    have hl := Lib.hid ((hl.out.below hb18).mono hb18.size)
    have hu := Lib.hid ((hu.out.below hb18).mono hb18.size)
    have hv' := Lib.hid ((hv'.out.below hb18).mono hb18.size)
    have hco := Lib.hid ((hco.out.below hb18).mono hb18.size)
    have b5 := Lib.hid (blk_lift hb18 b5.out)
    have bf := Lib.hid (blk_lift hb18 bf.out)
    have hA1 := Lib.hid ((hA1.out.below hb18).mono hb18.size)
    have b9 := Lib.hid (blk_lift hb18 b9.out)
    have b11 := Lib.hid (blk_lift hb18 b11.out)
    have ch18 := (ch17).trans (hb18.mono (ch17).size)
    clear ch17
    clear hb18
    have KEEP := Lib.hid (box2_keep b5.out)
    have kL := Lib.hid (load_hid (w := w18) hl.out hv)
    have kD := Lib.hid (rread_hid (w := w18) hf hu.out (l := l) (v := v))
    go_wp2
    go_region_held3 (fun w' => w'.cell? ⟨w.heap.size, 0, none⟩ = some (.int .i64 n) ∧ w'.cell? ⟨w.heap.size, 1, none⟩ = some (.slice au LL cu))
      (with_reducible (first | exact KEEP.out _ (hzd.alloc hzd.size _) | exact KEEP.out _ (hzd.alloc hzd.size _).drew | exact KEEP.out _ hzd | exact KEEP.out _ hzd.drew | exact KEEP.out _ (hza.alloc hza.size _) | exact KEEP.out _ (hza.alloc hza.size _).drew | exact KEEP.out _ hza | exact KEEP.out _ hza.drew | exact KEEP.out _ (Below.refl _ _) | exact KEEP.out _ (Below.refl _ _).drew | exact KEEP.out _ (alloc_below _ _) | exact KEEP.out _ (alloc_below _ _).drew | fail "keep"))
      ((first
        | ((with_reducible refine (kL.out _ (by first | exact Below.refl _ _ | exact (Below.refl _ _).drew)).mono ?_); rintro e wa ⟨gm, tv, rfl, hm, hza⟩)
        | ((with_reducible refine (kD.out _ gm tv hm.out hza).mono ?_); rintro e w19 ⟨gs, rfl, hbo, hzd⟩)
        | (fail "arm")))
    have hzD := hzd
    have b11R := b11
    have chR := ch18
    have hl := Lib.hid ((hl.out.below hzd).mono hzd.size)
    have hu := Lib.hid ((hu.out.below hzd).mono hzd.size)
    have hv' := Lib.hid ((hv'.out.below hzd).mono hzd.size)
    have hco := Lib.hid ((hco.out.below hzd).mono hzd.size)
    have b5 := Lib.hid (blk_lift hzd b5.out)
    have bf := Lib.hid (blk_lift hzd bf.out)
    have hA1 := Lib.hid ((hA1.out.below hzd).mono hzd.size)
    have b9 := Lib.hid (blk_lift hzd b9.out)
    have b11 := Lib.hid (blk_lift hzd b11.out)
    have ch19 := (ch18).trans (hzd.mono (ch18).size)
    clear ch18
    clear kL kD KEEP hzd
    obtain ⟨T, hT, hbo⟩ := hbo.out
    have hT : w18.heap.size ≤ T := hT
    go_wp2_with fail
    refine (ended_at3 false (by have h1 := he.out; have h2 := (fitsB_iff hf).1; show (((n.toNat : Nat) : Int) == (l.length : Int)) = _; simp; omega) hbo).mono ?_
    rintro e w20 ⟨rfl, hbo2, hb20⟩
    have hzE := hb20
    have hl := Lib.hid ((hl.out.below hb20).mono hb20.size)
    have hu := Lib.hid ((hu.out.below hb20).mono hb20.size)
    have hv' := Lib.hid ((hv'.out.below hb20).mono hb20.size)
    have hco := Lib.hid ((hco.out.below hb20).mono hb20.size)
    have b5 := Lib.hid (blk_lift hb20 b5.out)
    have bf := Lib.hid (blk_lift hb20 bf.out)
    have hA1 := Lib.hid ((hA1.out.below hb20).mono hb20.size)
    have b9 := Lib.hid (blk_lift hb20 b9.out)
    have b11 := Lib.hid (blk_lift hb20 b11.out)
    have ch20 := (ch19).trans (hb20.mono (ch19).size)
    clear ch19
    clear hb20
    go_wp2_with fail
    refine (rstepNo_at3 (B := T) hbo2.out (Nat.le_refl _) (fit_good hf) hv (by have := he.out; have := (fitsB_iff hf).1; show n.toNat ≠ l.length; omega) hst).mono ?_
    rintro e w21 ⟨rfl, hbT⟩
    have hbA : Below w18.heap.size w18 w21 := (hzD.trans (hzE.mono hzD.size)).trans (hbT.mono hT)
    clear hzD hzE
    have b11 := b11R
    have b11 := Lib.hid (blk_lift hbA b11.out)
    have ch21 := (chR).trans (hbA.mono (chR).size)
    clear chR
    clear hbA
    have e1 := box2 b11.out
    obtain ⟨e1a, e1b⟩ := e1
    go_wp2_with fail
    clear e1a e1b
    refine (none0_at _).mono ?_
    rintro e w22 ⟨rfl, hb22⟩
    have b11 := Lib.hid (blk_lift hb22 b11.out)
    have ch22 := (ch21).trans (hb22.mono (ch21).size)
    clear ch21
    clear hb22
    go_wp2_with fail
    refine (awake03 _).mono ?_
    rintro e w23 ⟨rfl, hb23⟩
    have b11 := Lib.hid (blk_lift hb23 b11.out)
    have ch23 := (ch22).trans (hb23.mono (ch22).size)
    clear ch22
    clear hb23
    go_wp2
    go_ret
    exact ⟨rfl, ch23⟩)

set_option maxRecDepth 100000 in
set_option maxHeartbeats 8000000 in
theorem law_RunSteps_vxok {w : World} (v : Value) (l : List Ins) (hl : InsRow w w.heap.size v l) (t : Tr) (ht : t.size ≤ 2000000) (hs : (TS t).size ≤ 140737488355328) (hx : isTree (TS t) = true) (n : Int) (au : Option Addr) (LL cu : Nat) (L : List ByteArray) (HLL : Hid (L.length = LL)) (hn : i64 n) (hz : L.length ≤ 8796093022208) (hu : StrRow w w.heap.size (.slice au LL cu) L) (hv : validB l = true) (hf : fitsB n l.length L = true) (he : Hid (n ≠ l.length)) (s' : St) (hg : Good l.length s') (hst : stepP l ⟨n.toNat, L.map toTr⟩ = some s') :
    Calls Try.prog 15 #[v, .string (TS t), .agg #[.int .i64 n, .slice au LL cu]] w fun e w' => e = .returned (.bool true) ∧ Below w.heap.size w w' := by
    have hl := Lib.hid hl
    have hu := Lib.hid hu
    obtain ⟨W0, hW0⟩ : ∃ W0, w.alloc (.cells #[.int .i64 n, .slice au LL cu] 53) = W0 := ⟨_, rfl⟩
    have hq0 : Below w.heap.size w W0 := by rw [← hW0]; exact alloc_below _ _
    have b5 := Lib.hid (show W0.heap[w.heap.size]? = some (.cells #[.int .i64 n, .slice au LL cu] 53 (0, 0)) by rw [← hW0]; exact box2_new _ _ _ _)
    have hl := Lib.hid ((hl.out.below hq0).mono hq0.size)
    have hu := Lib.hid ((hu.out.below hq0).mono hq0.size)
    have HQ0 := Lib.hid hq0
    have e00 := box2 b5.out
    obtain ⟨e00, e01⟩ := e00
    clear hq0
    go_enter Try.func15, Try.ntmps15
    have kTw : Hid (∀ w', Below W0.heap.size W0 w' → Calls Try.prog 20 #[v] w' fun e w'' => ∃ v', e = .returned v' ∧ Hid (InsRow w'' w''.heap.size v' l) ∧ Hid (Below w'.heap.size w' w'') ∧ Below W0.heap.size W0 w'') := fun w' hb => (twin_any v l w' ((hl.out.below hb).mono hb.size)).mono fun e w'' ⟨v', h1, h2, h3⟩ => ⟨v', h1, h2, h3, hb.trans (h3.mono hb.size)⟩
    have kCo : Hid (∀ w', Below W0.heap.size W0 w' → Calls Try.prog 48 #[.agg #[.int .i64 n, .slice au LL cu]] w' fun e w'' => ∃ ac cc, e = .returned (.agg #[.int .i64 n, .slice ac LL cc]) ∧ Hid (StrRow w'' w''.heap.size (.slice ac LL cc) L) ∧ Hid (Below w'.heap.size w' w'') ∧ Below W0.heap.size W0 w'') := fun w' hb => by
      refine (copied_any n _ L hz w' ((hu.out.below hb).mono hb.size)).mono ?_
      rintro e w'' ⟨a, c, h1, h2, h3⟩
      rw [HLL.out] at h1 h2
      exact ⟨a, c, h1, h2, h3, hb.trans (h3.mono hb.size)⟩
    have KEEP := Lib.hid (box2_keep b5.out)
    go_wp2
    go_region_held3 (fun w' => w'.cell? ⟨w.heap.size, 0, none⟩ = some (.int .i64 n) ∧ w'.cell? ⟨w.heap.size, 1, none⟩ = some (.slice au LL cu))
      (with_reducible (first | exact KEEP.out _ (hzC.alloc hzC.size _) | exact KEEP.out _ (hzC.alloc hzC.size _).drew | exact KEEP.out _ hzC | exact KEEP.out _ hzC.drew | exact KEEP.out _ (hzT.alloc hzT.size _) | exact KEEP.out _ (hzT.alloc hzT.size _).drew | exact KEEP.out _ hzT | exact KEEP.out _ hzT.drew | exact KEEP.out _ (Below.refl _ _) | exact KEEP.out _ (Below.refl _ _).drew | exact KEEP.out _ (alloc_below _ _) | exact KEEP.out _ (alloc_below _ _).drew | (have hzS := hzC; have hzR := hzT; exact KEEP.out _ ((hzS.setCell (by first | exact hzR.size | exact Nat.le_refl _) _).setCell (by first | exact hzR.size | exact Nat.le_refl _) _)) | (have hzS := hzC; have hzR := hzT; exact KEEP.out _ ((hzS.setCell (by first | exact hzR.size | exact Nat.le_refl _) _).setCell (by first | exact hzR.size | exact Nat.le_refl _) _).drew) | fail "keep"))
      ((first
        | ((with_reducible refine (kTw.out _ (by first | exact Below.refl _ _ | exact (Below.refl _ _).drew | exact alloc_below _ _ | exact (alloc_below _ _).drew | exact (Below.refl _ _).drew.alloc (Nat.le_refl _) _)).mono ?_); rintro e wT ⟨v', rfl, hv', hlT, hzT⟩)
        | ((with_reducible refine (kCo.out _ (by first | exact hzT | exact hzT.alloc hzT.size _)).mono ?_); rintro e wC ⟨ac, cc, rfl, hco, hlC, hzC⟩; (first | (have hb8 := blk_lift hlC.out (box2_new wT _ _ _); obtain ⟨k80, k81, k82, k83⟩ := box4 hb8; have hb08 := Lib.hid hb8; clear hb8) | (have hb8 := blk_lift hlC.out (blk_lift_drew hlT.out (box2_new W0 _ _ _)); obtain ⟨k80, k81, k82, k83⟩ := box4 hb8; have hb08 := Lib.hid hb8; clear hb8) | (have hb8 := blk_lift hlC.out (blk_lift hlT.out (box2_new W0 _ _ _)); obtain ⟨k80, k81, k82, k83⟩ := box4 hb8; have hb08 := Lib.hid hb8; clear hb8) | skip))
        | (fail "arm")))
    all_goals (
    (first | (have BF := (BoxFin.set (W0 := W0) (A := wC) (.int .i64 n) (.slice ac LL cc) hb08.out (by intro s h; cases h) (by intro s h; cases h) (by first | exact Nat.le_refl _ | exact hzT.size))) | (have BF := (BoxFin.alloc (W0 := W0) (A := wC) 53 (.int .i64 n) (.slice ac LL cc) hzC.size)))
    refine BoxFin.elimW BF ?_
    clear BF
    intro w8 BF
    refine BoxFin.elimB BF.out ?_
    clear BF
    intro b8 BF
    have b5 := Lib.hid (BF.out.blk' (by rw [← hW0]; simp) (blk_lift hzC b5.out))
    have bf := Lib.hid BF.out.blk
    have hl := Lib.hid (BF.out.ins ((hl.out.below hzC).mono hzC.size))
    have hu := Lib.hid (BF.out.str ((hu.out.below hzC).mono hzC.size))
    have hv' := Lib.hid (BF.out.ins (by first | exact (hv'.out.below hlC.out).mono hlC.out.size | exact (((hv'.out.below (alloc_below _ _)).mono (alloc_below _ _).size).below hlC.out).mono hlC.out.size))
    have hco := Lib.hid (BF.out.str hco.out)
    have ch8 := HQ0.out.trans ((BF.out.below hzC).mono HQ0.out.size)
    clear BF HQ0 hzC hlC hlT hzT kTw kCo KEEP e00 e01
    try clear hb08 k80 k81 k82 k83
    go_wp2_with fail
    refine (first_at ht rfl hv hl.out).mono ?_
    rintro e w9 ⟨a1, c1, rfl, hA1, hb9⟩
    have hl := Lib.hid ((hl.out.below hb9).mono hb9.size)
    have hu := Lib.hid ((hu.out.below hb9).mono hb9.size)
    have hv' := Lib.hid ((hv'.out.below hb9).mono hb9.size)
    have hco := Lib.hid ((hco.out.below hb9).mono hb9.size)
    have b5 := Lib.hid (blk_lift hb9 b5.out)
    have bf := Lib.hid (blk_lift hb9 bf.out)
    have ch9 := (ch8).trans (hb9.mono (ch8).size)
    clear ch8
    clear hb9
    have hA1 := Lib.hid hA1
    have e1 := box2 (blk_lift (alloc_below w9 (.cells #[.int .i64 0, .slice a1 32 c1] 53)) b5.out)
    obtain ⟨e1a, e1b⟩ := e1
    go_wp2_with fail
    clear e1a e1b
    obtain ⟨w10, hW⟩ : ∃ B, w9.alloc (.cells #[.int .i64 0, .slice a1 32 c1] 53) = B := ⟨_, rfl⟩
    rw [hW]
    have hbB : Below w9.heap.size w9 w10 := by rw [← hW]; exact alloc_below _ _
    have b9 := Lib.hid (show w10.heap[w9.heap.size]? = some (.cells #[.int .i64 0, .slice a1 32 c1] 53 (0, 0)) by rw [← hW]; exact box2_new _ _ _ _)
    clear hW
    have hl := Lib.hid ((hl.out.below hbB).mono hbB.size)
    have hu := Lib.hid ((hu.out.below hbB).mono hbB.size)
    have hv' := Lib.hid ((hv'.out.below hbB).mono hbB.size)
    have hco := Lib.hid ((hco.out.below hbB).mono hbB.size)
    have b5 := Lib.hid (blk_lift hbB b5.out)
    have bf := Lib.hid (blk_lift hbB bf.out)
    have hA1 := Lib.hid ((hA1.out.below hbB).mono hbB.size)
    have ch10 := (ch9).trans (hbB.mono (ch9).size)
    clear ch9
    clear hbB
    refine (step_ok_at hv hf he.out hg.2.1 hst hl.out hu.out).mono ?_
    rintro e w11 ⟨a2, c2, rfl, hA2, hb11⟩
    have hl := Lib.hid ((hl.out.below hb11).mono hb11.size)
    have hu := Lib.hid ((hu.out.below hb11).mono hb11.size)
    have hv' := Lib.hid ((hv'.out.below hb11).mono hb11.size)
    have hco := Lib.hid ((hco.out.below hb11).mono hb11.size)
    have b5 := Lib.hid (blk_lift hb11 b5.out)
    have bf := Lib.hid (blk_lift hb11 bf.out)
    have hA1 := Lib.hid ((hA1.out.below hb11).mono hb11.size)
    have b9 := Lib.hid (blk_lift hb11 b9.out)
    have ch11 := (ch10).trans (hb11.mono (ch10).size)
    clear ch10
    clear hb11
    have hA2 := Lib.hid hA2
    go_wp2_with fail
    obtain ⟨w12, hW⟩ : ∃ B, w11.alloc (.cells #[.int .i64 s'.pos, .slice a2 32 c2] 53) = B := ⟨_, rfl⟩
    rw [hW]
    have hbB : Below w11.heap.size w11 w12 := by rw [← hW]; exact alloc_below _ _
    have b11 := Lib.hid (show w12.heap[w11.heap.size]? = some (.cells #[.int .i64 s'.pos, .slice a2 32 c2] 53 (0, 0)) by rw [← hW]; exact box2_new _ _ _ _)
    clear hW
    have hl := Lib.hid ((hl.out.below hbB).mono hbB.size)
    have hu := Lib.hid ((hu.out.below hbB).mono hbB.size)
    have hv' := Lib.hid ((hv'.out.below hbB).mono hbB.size)
    have hco := Lib.hid ((hco.out.below hbB).mono hbB.size)
    have b5 := Lib.hid (blk_lift hbB b5.out)
    have bf := Lib.hid (blk_lift hbB bf.out)
    have hA1 := Lib.hid ((hA1.out.below hbB).mono hbB.size)
    have b9 := Lib.hid (blk_lift hbB b9.out)
    have hA2 := Lib.hid ((hA2.out.below hbB).mono hbB.size)
    have ch12 := (ch11).trans (hbB.mono (ch11).size)
    clear ch11
    clear hbB
    refine (same_self hl.out hv'.out).mono ?_
    rintro e w13 ⟨rfl, hb13⟩
    have hl := Lib.hid ((hl.out.below hb13).mono hb13.size)
    have hu := Lib.hid ((hu.out.below hb13).mono hb13.size)
    have hv' := Lib.hid ((hv'.out.below hb13).mono hb13.size)
    have hco := Lib.hid ((hco.out.below hb13).mono hb13.size)
    have b5 := Lib.hid (blk_lift hb13 b5.out)
    have bf := Lib.hid (blk_lift hb13 bf.out)
    have hA1 := Lib.hid ((hA1.out.below hb13).mono hb13.size)
    have b9 := Lib.hid (blk_lift hb13 b9.out)
    have hA2 := Lib.hid ((hA2.out.below hb13).mono hb13.size)
    have b11 := Lib.hid (blk_lift hb13 b11.out)
    have ch13 := (ch12).trans (hb13.mono (ch12).size)
    clear ch12
    clear hb13
    have e1 := box2 b5.out
    obtain ⟨e1a, e1b⟩ := e1
    have e2 := box2 bf.out
    obtain ⟨e2a, e2b⟩ := e2
    go_wp2_with fail
    clear e1a e1b
    clear e2a e2b
    refine (sameState_at rfl rfl hu.out hco.out).mono ?_
    rintro e w14 ⟨rfl, hb14⟩
    have hl := Lib.hid ((hl.out.below hb14).mono hb14.size)
    have hu := Lib.hid ((hu.out.below hb14).mono hb14.size)
    have hv' := Lib.hid ((hv'.out.below hb14).mono hb14.size)
    have hco := Lib.hid ((hco.out.below hb14).mono hb14.size)
    have b5 := Lib.hid (blk_lift hb14 b5.out)
    have bf := Lib.hid (blk_lift hb14 bf.out)
    have hA1 := Lib.hid ((hA1.out.below hb14).mono hb14.size)
    have b9 := Lib.hid (blk_lift hb14 b9.out)
    have hA2 := Lib.hid ((hA2.out.below hb14).mono hb14.size)
    have b11 := Lib.hid (blk_lift hb14 b11.out)
    have ch14 := (ch13).trans (hb14.mono (ch13).size)
    clear ch13
    clear hb14
    go_wp2_with fail
    refine (cvalid_at true hv hl.out).mono ?_
    rintro e w15 ⟨rfl, hb15⟩
    have hl := Lib.hid ((hl.out.below hb15).mono hb15.size)
    have hu := Lib.hid ((hu.out.below hb15).mono hb15.size)
    have hv' := Lib.hid ((hv'.out.below hb15).mono hb15.size)
    have hco := Lib.hid ((hco.out.below hb15).mono hb15.size)
    have b5 := Lib.hid (blk_lift hb15 b5.out)
    have bf := Lib.hid (blk_lift hb15 bf.out)
    have hA1 := Lib.hid ((hA1.out.below hb15).mono hb15.size)
    have b9 := Lib.hid (blk_lift hb15 b9.out)
    have hA2 := Lib.hid ((hA2.out.below hb15).mono hb15.size)
    have b11 := Lib.hid (blk_lift hb15 b11.out)
    have ch15 := (ch14).trans (hb15.mono (ch14).size)
    clear ch14
    clear hb15
    go_wp2_with fail
    refine (tvalid_at _ hs true hx _).mono ?_
    rintro e w16 ⟨rfl, hb16⟩
    have hl := Lib.hid ((hl.out.below hb16).mono hb16.size)
    have hu := Lib.hid ((hu.out.below hb16).mono hb16.size)
    have hv' := Lib.hid ((hv'.out.below hb16).mono hb16.size)
    have hco := Lib.hid ((hco.out.below hb16).mono hb16.size)
    have b5 := Lib.hid (blk_lift hb16 b5.out)
    have bf := Lib.hid (blk_lift hb16 bf.out)
    have hA1 := Lib.hid ((hA1.out.below hb16).mono hb16.size)
    have b9 := Lib.hid (blk_lift hb16 b9.out)
    have hA2 := Lib.hid ((hA2.out.below hb16).mono hb16.size)
    have b11 := Lib.hid (blk_lift hb16 b11.out)
    have ch16 := (ch15).trans (hb16.mono (ch15).size)
    clear ch15
    clear hb16
    have KEEP := Lib.hid (box2_keep b9.out)
    have kR := Lib.hid (read_hid (w := w16) ht)
    have kF := Lib.hid (rfirst_hid (w := w16) (t := t))
    have kT := Lib.hid (rtext_hid (w := w16) 0 rfl (Good.start 0 t ht))
    have kS := Lib.hid (sameState_hid (w := w16) (n := 0) hA1.out)
    go_wp2
    go_region_held3 (fun w' => w'.cell? ⟨w9.heap.size, 0, none⟩ = some (.int .i64 0) ∧ w'.cell? ⟨w9.heap.size, 1, none⟩ = some (.slice a1 32 c1))
      (with_reducible (first | exact KEEP.out _ (hzd.alloc hzd.size _) | exact KEEP.out _ (hzd.alloc hzd.size _).drew | exact KEEP.out _ hzd | exact KEEP.out _ hzd.drew | exact KEEP.out _ (hzc.alloc hzc.size _) | exact KEEP.out _ (hzc.alloc hzc.size _).drew | exact KEEP.out _ hzc | exact KEEP.out _ hzc.drew | exact KEEP.out _ (hzb.alloc hzb.size _) | exact KEEP.out _ (hzb.alloc hzb.size _).drew | exact KEEP.out _ hzb | exact KEEP.out _ hzb.drew | exact KEEP.out _ (hza.alloc hza.size _) | exact KEEP.out _ (hza.alloc hza.size _).drew | exact KEEP.out _ hza | exact KEEP.out _ hza.drew | exact KEEP.out _ (Below.refl _ _) | exact KEEP.out _ (Below.refl _ _).drew | exact KEEP.out _ (alloc_below _ _) | exact KEEP.out _ (alloc_below _ _).drew | fail "keep"))
      ((first
        | ((with_reducible refine (kR.out _ (by first | exact Below.refl _ _ | exact (Below.refl _ _).drew)).mono ?_); rintro e wa ⟨q, rfl, hq, hza⟩)
        | ((with_reducible refine (kF.out _ q hq.out hza).mono ?_); rintro e wb ⟨gs1, rfl, hs1, hzb⟩)
        | ((with_reducible refine (kT.out _ gs1 (by obtain ⟨T, gr, ps, h⟩ := hs1.out; exact ⟨T, gr, 32, ps, h⟩) hzb).mono ?_); rintro e wc ⟨x1, rfl, hx1, hzc⟩)
        | ((with_reducible refine (kS.out _ x1 hx1.out hzc).mono ?_); rintro e w17 ⟨rfl, hzd⟩)
        | (fail "arm")))
    have hl := Lib.hid ((hl.out.below hzd).mono hzd.size)
    have hu := Lib.hid ((hu.out.below hzd).mono hzd.size)
    have hv' := Lib.hid ((hv'.out.below hzd).mono hzd.size)
    have hco := Lib.hid ((hco.out.below hzd).mono hzd.size)
    have b5 := Lib.hid (blk_lift hzd b5.out)
    have bf := Lib.hid (blk_lift hzd bf.out)
    have hA1 := Lib.hid ((hA1.out.below hzd).mono hzd.size)
    have b9 := Lib.hid (blk_lift hzd b9.out)
    have hA2 := Lib.hid ((hA2.out.below hzd).mono hzd.size)
    have b11 := Lib.hid (blk_lift hzd b11.out)
    have ch17 := (ch16).trans (hzd.mono (ch16).size)
    clear ch16
    clear kR kF kT kS KEEP hzd
    have e1 := box2 b5.out
    obtain ⟨e1a, e1b⟩ := e1
    go_wp2_with fail
    clear e1a e1b
    refine (fits3_at true hf hn hl.out hu.out).mono ?_
    rintro e w18 ⟨rfl, hb18⟩
    have hl := Lib.hid ((hl.out.below hb18).mono hb18.size)
    have hu := Lib.hid ((hu.out.below hb18).mono hb18.size)
    have hv' := Lib.hid ((hv'.out.below hb18).mono hb18.size)
    have hco := Lib.hid ((hco.out.below hb18).mono hb18.size)
    have b5 := Lib.hid (blk_lift hb18 b5.out)
    have bf := Lib.hid (blk_lift hb18 bf.out)
    have hA1 := Lib.hid ((hA1.out.below hb18).mono hb18.size)
    have b9 := Lib.hid (blk_lift hb18 b9.out)
    have hA2 := Lib.hid ((hA2.out.below hb18).mono hb18.size)
    have b11 := Lib.hid (blk_lift hb18 b11.out)
    have ch18 := (ch17).trans (hb18.mono (ch17).size)
    clear ch17
    clear hb18
    have KEEP := Lib.hid (box2_keep b5.out)
    have kL := Lib.hid (load_hid (w := w18) hl.out hv)
    have kD := Lib.hid (rread_hid (w := w18) hf hu.out (l := l) (v := v))
    go_wp2
    go_region_held3 (fun w' => w'.cell? ⟨w.heap.size, 0, none⟩ = some (.int .i64 n) ∧ w'.cell? ⟨w.heap.size, 1, none⟩ = some (.slice au LL cu))
      (with_reducible (first | exact KEEP.out _ (hzd.alloc hzd.size _) | exact KEEP.out _ (hzd.alloc hzd.size _).drew | exact KEEP.out _ hzd | exact KEEP.out _ hzd.drew | exact KEEP.out _ (hza.alloc hza.size _) | exact KEEP.out _ (hza.alloc hza.size _).drew | exact KEEP.out _ hza | exact KEEP.out _ hza.drew | exact KEEP.out _ (Below.refl _ _) | exact KEEP.out _ (Below.refl _ _).drew | exact KEEP.out _ (alloc_below _ _) | exact KEEP.out _ (alloc_below _ _).drew | fail "keep"))
      ((first
        | ((with_reducible refine (kL.out _ (by first | exact Below.refl _ _ | exact (Below.refl _ _).drew)).mono ?_); rintro e wa ⟨gm, tv, rfl, hm, hza⟩)
        | ((with_reducible refine (kD.out _ gm tv hm.out hza).mono ?_); rintro e w19 ⟨gs, rfl, hbo, hzd⟩)
        | (fail "arm")))
    have hzD := hzd
    have b11R := b11
    have chR := ch18
    have hA2R := hA2
    have hl := Lib.hid ((hl.out.below hzd).mono hzd.size)
    have hu := Lib.hid ((hu.out.below hzd).mono hzd.size)
    have hv' := Lib.hid ((hv'.out.below hzd).mono hzd.size)
    have hco := Lib.hid ((hco.out.below hzd).mono hzd.size)
    have b5 := Lib.hid (blk_lift hzd b5.out)
    have bf := Lib.hid (blk_lift hzd bf.out)
    have hA1 := Lib.hid ((hA1.out.below hzd).mono hzd.size)
    have b9 := Lib.hid (blk_lift hzd b9.out)
    have hA2 := Lib.hid ((hA2.out.below hzd).mono hzd.size)
    have b11 := Lib.hid (blk_lift hzd b11.out)
    have ch19 := (ch18).trans (hzd.mono (ch18).size)
    clear ch18
    clear kL kD KEEP hzd
    obtain ⟨T, hT, hbo⟩ := hbo.out
    have hT : w18.heap.size ≤ T := hT
    go_wp2_with fail
    refine (ended_at3 false (by have h1 := he.out; have h2 := (fitsB_iff hf).1; show (((n.toNat : Nat) : Int) == (l.length : Int)) = _; simp; omega) hbo).mono ?_
    rintro e w20 ⟨rfl, hbo2, hb20⟩
    have hzE := hb20
    have hl := Lib.hid ((hl.out.below hb20).mono hb20.size)
    have hu := Lib.hid ((hu.out.below hb20).mono hb20.size)
    have hv' := Lib.hid ((hv'.out.below hb20).mono hb20.size)
    have hco := Lib.hid ((hco.out.below hb20).mono hb20.size)
    have b5 := Lib.hid (blk_lift hb20 b5.out)
    have bf := Lib.hid (blk_lift hb20 bf.out)
    have hA1 := Lib.hid ((hA1.out.below hb20).mono hb20.size)
    have b9 := Lib.hid (blk_lift hb20 b9.out)
    have hA2 := Lib.hid ((hA2.out.below hb20).mono hb20.size)
    have b11 := Lib.hid (blk_lift hb20 b11.out)
    have ch20 := (ch19).trans (hb20.mono (ch19).size)
    clear ch19
    clear hb20
    go_wp2_with fail
    refine (rstepOk_at3 (B := T) hbo2.out (Nat.le_refl _) (fit_good hf) hv (by have := he.out; have := (fitsB_iff hf).1; show n.toNat ≠ l.length; omega) hst).mono ?_
    rintro e w21 ⟨rfl, hst', hbT⟩
    have hbA : Below w18.heap.size w18 w21 := (hzD.trans (hzE.mono hzD.size)).trans (hbT.mono hT)
    clear hzD hzE
    have b11 := b11R
    have hA2 := hA2R
    have b11 := Lib.hid (blk_lift hbA b11.out)
    have hA2 := Lib.hid ((hA2.out.below hbA).mono hbA.size)
    have ch21 := (chR).trans (hbA.mono (chR).size)
    clear chR
    clear hbA
    have KEEP := Lib.hid (box2_keep b11.out)
    have kT := Lib.hid (rtext_hid (w := w21) s'.pos rfl hg)
    have kS := Lib.hid (sameState_hid (w := w21) (n := s'.pos) hA2.out)
    have kA := Lib.hid (awake_hid w21)
    go_wp2
    go_region_held3 (fun w' => w'.cell? ⟨w11.heap.size, 0, none⟩ = some (.int .i64 s'.pos) ∧ w'.cell? ⟨w11.heap.size, 1, none⟩ = some (.slice a2 32 c2))
      (with_reducible (first | exact KEEP.out _ (hzf.alloc hzf.size _) | exact KEEP.out _ (hzf.alloc hzf.size _).drew | exact KEEP.out _ hzf | exact KEEP.out _ hzf.drew | exact KEEP.out _ (hzd.alloc hzd.size _) | exact KEEP.out _ (hzd.alloc hzd.size _).drew | exact KEEP.out _ hzd | exact KEEP.out _ hzd.drew | exact KEEP.out _ (hzc.alloc hzc.size _) | exact KEEP.out _ (hzc.alloc hzc.size _).drew | exact KEEP.out _ hzc | exact KEEP.out _ hzc.drew | exact KEEP.out _ (Below.refl _ _) | exact KEEP.out _ (Below.refl _ _).drew | exact KEEP.out _ (alloc_below _ _) | exact KEEP.out _ (alloc_below _ _).drew | fail "keep"))
      ((first
        | ((with_reducible refine (kT.out _ gs (by first | exact hst'.out | exact st_drew hst'.out) (by first | exact Below.refl _ _ | exact (Below.refl _ _).drew)).mono ?_); rintro e wc ⟨x1, rfl, hx1, hzc⟩)
        | ((with_reducible refine (kS.out _ x1 hx1.out hzc).mono ?_); rintro e wf ⟨rfl, hzd⟩)
        | ((with_reducible refine (kA.out _ hzd).mono ?_); rintro e w22 ⟨rfl, hzf⟩)
        | (fail "arm")))
    have b11 := Lib.hid (blk_lift hzf b11.out)
    have hA2 := Lib.hid ((hA2.out.below hzf).mono hzf.size)
    have ch22 := (ch21).trans (hzf.mono (ch21).size)
    clear ch21
    go_wp2
    go_ret
    exact ⟨rfl, ch22⟩)

set_option maxRecDepth 100000 in
set_option maxHeartbeats 8000000 in
theorem law_RunSteps_vybad {w : World} (v : Value) (l : List Ins) (hl : InsRow w w.heap.size v l) (s : ByteArray) (hs : s.size ≤ 140737488355328) (hx : isTree s = false) (n : Int) (au : Option Addr) (LL cu : Nat) (L : List ByteArray) (HLL : Hid (L.length = LL)) (hn : i64 n) (hz : L.length ≤ 8796093022208) (hu : StrRow w w.heap.size (.slice au LL cu) L) (hv : validB l = true) (hf : fitsB n l.length L = false) :
    Calls Try.prog 15 #[v, .string s, .agg #[.int .i64 n, .slice au LL cu]] w fun e w' => e = .returned (.bool true) ∧ Below w.heap.size w w' := by
    have hl := Lib.hid hl
    have hu := Lib.hid hu
    obtain ⟨W0, hW0⟩ : ∃ W0, w.alloc (.cells #[.int .i64 n, .slice au LL cu] 53) = W0 := ⟨_, rfl⟩
    have hq0 : Below w.heap.size w W0 := by rw [← hW0]; exact alloc_below _ _
    have b5 := Lib.hid (show W0.heap[w.heap.size]? = some (.cells #[.int .i64 n, .slice au LL cu] 53 (0, 0)) by rw [← hW0]; exact box2_new _ _ _ _)
    have hl := Lib.hid ((hl.out.below hq0).mono hq0.size)
    have hu := Lib.hid ((hu.out.below hq0).mono hq0.size)
    have HQ0 := Lib.hid hq0
    have e00 := box2 b5.out
    obtain ⟨e00, e01⟩ := e00
    clear hq0
    go_enter Try.func15, Try.ntmps15
    have kTw : Hid (∀ w', Below W0.heap.size W0 w' → Calls Try.prog 20 #[v] w' fun e w'' => ∃ v', e = .returned v' ∧ Hid (InsRow w'' w''.heap.size v' l) ∧ Hid (Below w'.heap.size w' w'') ∧ Below W0.heap.size W0 w'') := fun w' hb => (twin_any v l w' ((hl.out.below hb).mono hb.size)).mono fun e w'' ⟨v', h1, h2, h3⟩ => ⟨v', h1, h2, h3, hb.trans (h3.mono hb.size)⟩
    have kCo : Hid (∀ w', Below W0.heap.size W0 w' → Calls Try.prog 48 #[.agg #[.int .i64 n, .slice au LL cu]] w' fun e w'' => ∃ ac cc, e = .returned (.agg #[.int .i64 n, .slice ac LL cc]) ∧ Hid (StrRow w'' w''.heap.size (.slice ac LL cc) L) ∧ Hid (Below w'.heap.size w' w'') ∧ Below W0.heap.size W0 w'') := fun w' hb => by
      refine (copied_any n _ L hz w' ((hu.out.below hb).mono hb.size)).mono ?_
      rintro e w'' ⟨a, c, h1, h2, h3⟩
      rw [HLL.out] at h1 h2
      exact ⟨a, c, h1, h2, h3, hb.trans (h3.mono hb.size)⟩
    have KEEP := Lib.hid (box2_keep b5.out)
    go_wp2
    go_region_held3 (fun w' => w'.cell? ⟨w.heap.size, 0, none⟩ = some (.int .i64 n) ∧ w'.cell? ⟨w.heap.size, 1, none⟩ = some (.slice au LL cu))
      (with_reducible (first | exact KEEP.out _ (hzC.alloc hzC.size _) | exact KEEP.out _ (hzC.alloc hzC.size _).drew | exact KEEP.out _ hzC | exact KEEP.out _ hzC.drew | exact KEEP.out _ (hzT.alloc hzT.size _) | exact KEEP.out _ (hzT.alloc hzT.size _).drew | exact KEEP.out _ hzT | exact KEEP.out _ hzT.drew | exact KEEP.out _ (Below.refl _ _) | exact KEEP.out _ (Below.refl _ _).drew | exact KEEP.out _ (alloc_below _ _) | exact KEEP.out _ (alloc_below _ _).drew | (have hzS := hzC; have hzR := hzT; exact KEEP.out _ ((hzS.setCell (by first | exact hzR.size | exact Nat.le_refl _) _).setCell (by first | exact hzR.size | exact Nat.le_refl _) _)) | (have hzS := hzC; have hzR := hzT; exact KEEP.out _ ((hzS.setCell (by first | exact hzR.size | exact Nat.le_refl _) _).setCell (by first | exact hzR.size | exact Nat.le_refl _) _).drew) | fail "keep"))
      ((first
        | ((with_reducible refine (kTw.out _ (by first | exact Below.refl _ _ | exact (Below.refl _ _).drew | exact alloc_below _ _ | exact (alloc_below _ _).drew | exact (Below.refl _ _).drew.alloc (Nat.le_refl _) _)).mono ?_); rintro e wT ⟨v', rfl, hv', hlT, hzT⟩)
        | ((with_reducible refine (kCo.out _ (by first | exact hzT | exact hzT.alloc hzT.size _)).mono ?_); rintro e wC ⟨ac, cc, rfl, hco, hlC, hzC⟩; (first | (have hb8 := blk_lift hlC.out (box2_new wT _ _ _); obtain ⟨k80, k81, k82, k83⟩ := box4 hb8; have hb08 := Lib.hid hb8; clear hb8) | (have hb8 := blk_lift hlC.out (blk_lift_drew hlT.out (box2_new W0 _ _ _)); obtain ⟨k80, k81, k82, k83⟩ := box4 hb8; have hb08 := Lib.hid hb8; clear hb8) | (have hb8 := blk_lift hlC.out (blk_lift hlT.out (box2_new W0 _ _ _)); obtain ⟨k80, k81, k82, k83⟩ := box4 hb8; have hb08 := Lib.hid hb8; clear hb8) | skip))
        | (fail "arm")))
    all_goals (
    (first | (have BF := (BoxFin.set (W0 := W0) (A := wC) (.int .i64 n) (.slice ac LL cc) hb08.out (by intro s h; cases h) (by intro s h; cases h) (by first | exact Nat.le_refl _ | exact hzT.size))) | (have BF := (BoxFin.alloc (W0 := W0) (A := wC) 53 (.int .i64 n) (.slice ac LL cc) hzC.size)))
    refine BoxFin.elimW BF ?_
    clear BF
    intro w8 BF
    refine BoxFin.elimB BF.out ?_
    clear BF
    intro b8 BF
    have b5 := Lib.hid (BF.out.blk' (by rw [← hW0]; simp) (blk_lift hzC b5.out))
    have bf := Lib.hid BF.out.blk
    have hl := Lib.hid (BF.out.ins ((hl.out.below hzC).mono hzC.size))
    have hu := Lib.hid (BF.out.str ((hu.out.below hzC).mono hzC.size))
    have hv' := Lib.hid (BF.out.ins (by first | exact (hv'.out.below hlC.out).mono hlC.out.size | exact (((hv'.out.below (alloc_below _ _)).mono (alloc_below _ _).size).below hlC.out).mono hlC.out.size))
    have hco := Lib.hid (BF.out.str hco.out)
    have ch8 := HQ0.out.trans ((BF.out.below hzC).mono HQ0.out.size)
    clear BF HQ0 hzC hlC hlT hzT kTw kCo KEEP e00 e01
    try clear hb08 k80 k81 k82 k83
    go_wp2_with fail
    refine (first_bad v l _ hs _ hl.out (.inr hx)).mono ?_
    rintro e w9 ⟨rfl, hb9⟩
    have hl := Lib.hid ((hl.out.below hb9).mono hb9.size)
    have hu := Lib.hid ((hu.out.below hb9).mono hb9.size)
    have hv' := Lib.hid ((hv'.out.below hb9).mono hb9.size)
    have hco := Lib.hid ((hco.out.below hb9).mono hb9.size)
    have b5 := Lib.hid (blk_lift hb9 b5.out)
    have bf := Lib.hid (blk_lift hb9 bf.out)
    have ch9 := (ch8).trans (hb9.mono (ch8).size)
    clear ch8
    clear hb9
    have e1 := box2 (blk_lift (alloc_below w9 (.cells #[.int .i64 0, .slice none 0 0] 53)) b5.out)
    obtain ⟨e1a, e1b⟩ := e1
    go_wp2_with fail
    clear e1a e1b
    obtain ⟨w10, hW⟩ : ∃ B, w9.alloc (.cells #[.int .i64 0, .slice none 0 0] 53) = B := ⟨_, rfl⟩
    rw [hW]
    have hbB : Below w9.heap.size w9 w10 := by rw [← hW]; exact alloc_below _ _
    have b9 := Lib.hid (show w10.heap[w9.heap.size]? = some (.cells #[.int .i64 0, .slice none 0 0] 53 (0, 0)) by rw [← hW]; exact box2_new _ _ _ _)
    clear hW
    have hl := Lib.hid ((hl.out.below hbB).mono hbB.size)
    have hu := Lib.hid ((hu.out.below hbB).mono hbB.size)
    have hv' := Lib.hid ((hv'.out.below hbB).mono hbB.size)
    have hco := Lib.hid ((hco.out.below hbB).mono hbB.size)
    have b5 := Lib.hid (blk_lift hbB b5.out)
    have bf := Lib.hid (blk_lift hbB bf.out)
    have ch10 := (ch9).trans (hbB.mono (ch9).size)
    clear ch9
    clear hbB
    refine (step_bad_at hn (.inr hf) hl.out hu.out).mono ?_
    rintro e w11 ⟨rfl, hb11⟩
    have hl := Lib.hid ((hl.out.below hb11).mono hb11.size)
    have hu := Lib.hid ((hu.out.below hb11).mono hb11.size)
    have hv' := Lib.hid ((hv'.out.below hb11).mono hb11.size)
    have hco := Lib.hid ((hco.out.below hb11).mono hb11.size)
    have b5 := Lib.hid (blk_lift hb11 b5.out)
    have bf := Lib.hid (blk_lift hb11 bf.out)
    have b9 := Lib.hid (blk_lift hb11 b9.out)
    have ch11 := (ch10).trans (hb11.mono (ch10).size)
    clear ch10
    clear hb11
    go_wp2_with fail
    obtain ⟨w12, hW⟩ : ∃ B, w11.alloc (.cells #[.int .i64 0, .slice none 0 0] 53) = B := ⟨_, rfl⟩
    rw [hW]
    have hbB : Below w11.heap.size w11 w12 := by rw [← hW]; exact alloc_below _ _
    have b11 := Lib.hid (show w12.heap[w11.heap.size]? = some (.cells #[.int .i64 0, .slice none 0 0] 53 (0, 0)) by rw [← hW]; exact box2_new _ _ _ _)
    clear hW
    have hl := Lib.hid ((hl.out.below hbB).mono hbB.size)
    have hu := Lib.hid ((hu.out.below hbB).mono hbB.size)
    have hv' := Lib.hid ((hv'.out.below hbB).mono hbB.size)
    have hco := Lib.hid ((hco.out.below hbB).mono hbB.size)
    have b5 := Lib.hid (blk_lift hbB b5.out)
    have bf := Lib.hid (blk_lift hbB bf.out)
    have b9 := Lib.hid (blk_lift hbB b9.out)
    have ch12 := (ch11).trans (hbB.mono (ch11).size)
    clear ch11
    clear hbB
    refine (same_self hl.out hv'.out).mono ?_
    rintro e w13 ⟨rfl, hb13⟩
    have hl := Lib.hid ((hl.out.below hb13).mono hb13.size)
    have hu := Lib.hid ((hu.out.below hb13).mono hb13.size)
    have hv' := Lib.hid ((hv'.out.below hb13).mono hb13.size)
    have hco := Lib.hid ((hco.out.below hb13).mono hb13.size)
    have b5 := Lib.hid (blk_lift hb13 b5.out)
    have bf := Lib.hid (blk_lift hb13 bf.out)
    have b9 := Lib.hid (blk_lift hb13 b9.out)
    have b11 := Lib.hid (blk_lift hb13 b11.out)
    have ch13 := (ch12).trans (hb13.mono (ch12).size)
    clear ch12
    clear hb13
    have e1 := box2 b5.out
    obtain ⟨e1a, e1b⟩ := e1
    have e2 := box2 bf.out
    obtain ⟨e2a, e2b⟩ := e2
    go_wp2_with fail
    clear e1a e1b
    clear e2a e2b
    refine (sameState_at rfl rfl hu.out hco.out).mono ?_
    rintro e w14 ⟨rfl, hb14⟩
    have hl := Lib.hid ((hl.out.below hb14).mono hb14.size)
    have hu := Lib.hid ((hu.out.below hb14).mono hb14.size)
    have hv' := Lib.hid ((hv'.out.below hb14).mono hb14.size)
    have hco := Lib.hid ((hco.out.below hb14).mono hb14.size)
    have b5 := Lib.hid (blk_lift hb14 b5.out)
    have bf := Lib.hid (blk_lift hb14 bf.out)
    have b9 := Lib.hid (blk_lift hb14 b9.out)
    have b11 := Lib.hid (blk_lift hb14 b11.out)
    have ch14 := (ch13).trans (hb14.mono (ch13).size)
    clear ch13
    clear hb14
    go_wp2_with fail
    refine (cvalid_at true hv hl.out).mono ?_
    rintro e w15 ⟨rfl, hb15⟩
    have hl := Lib.hid ((hl.out.below hb15).mono hb15.size)
    have hu := Lib.hid ((hu.out.below hb15).mono hb15.size)
    have hv' := Lib.hid ((hv'.out.below hb15).mono hb15.size)
    have hco := Lib.hid ((hco.out.below hb15).mono hb15.size)
    have b5 := Lib.hid (blk_lift hb15 b5.out)
    have bf := Lib.hid (blk_lift hb15 bf.out)
    have b9 := Lib.hid (blk_lift hb15 b9.out)
    have b11 := Lib.hid (blk_lift hb15 b11.out)
    have ch15 := (ch14).trans (hb15.mono (ch14).size)
    clear ch14
    clear hb15
    go_wp2_with fail
    refine (tvalid_at _ hs false hx _).mono ?_
    rintro e w16 ⟨rfl, hb16⟩
    have hl := Lib.hid ((hl.out.below hb16).mono hb16.size)
    have hu := Lib.hid ((hu.out.below hb16).mono hb16.size)
    have hv' := Lib.hid ((hv'.out.below hb16).mono hb16.size)
    have hco := Lib.hid ((hco.out.below hb16).mono hb16.size)
    have b5 := Lib.hid (blk_lift hb16 b5.out)
    have bf := Lib.hid (blk_lift hb16 bf.out)
    have b9 := Lib.hid (blk_lift hb16 b9.out)
    have b11 := Lib.hid (blk_lift hb16 b11.out)
    have ch16 := (ch15).trans (hb16.mono (ch15).size)
    clear ch15
    clear hb16
    have e1 := box2 b9.out
    obtain ⟨e1a, e1b⟩ := e1
    go_wp2_with fail
    clear e1a e1b
    refine (none0_at _).mono ?_
    rintro e w17 ⟨rfl, hb17⟩
    have hl := Lib.hid ((hl.out.below hb17).mono hb17.size)
    have hu := Lib.hid ((hu.out.below hb17).mono hb17.size)
    have hv' := Lib.hid ((hv'.out.below hb17).mono hb17.size)
    have hco := Lib.hid ((hco.out.below hb17).mono hb17.size)
    have b5 := Lib.hid (blk_lift hb17 b5.out)
    have bf := Lib.hid (blk_lift hb17 bf.out)
    have b9 := Lib.hid (blk_lift hb17 b9.out)
    have b11 := Lib.hid (blk_lift hb17 b11.out)
    have ch17 := (ch16).trans (hb17.mono (ch16).size)
    clear ch16
    clear hb17
    have e1 := box2 b5.out
    obtain ⟨e1a, e1b⟩ := e1
    go_wp2_with fail
    clear e1a e1b
    refine (fits3_at false hf hn hl.out hu.out).mono ?_
    rintro e w18 ⟨rfl, hb18⟩
    have hl := Lib.hid ((hl.out.below hb18).mono hb18.size)
    have hu := Lib.hid ((hu.out.below hb18).mono hb18.size)
    have hv' := Lib.hid ((hv'.out.below hb18).mono hb18.size)
    have hco := Lib.hid ((hco.out.below hb18).mono hb18.size)
    have b5 := Lib.hid (blk_lift hb18 b5.out)
    have bf := Lib.hid (blk_lift hb18 bf.out)
    have b9 := Lib.hid (blk_lift hb18 b9.out)
    have b11 := Lib.hid (blk_lift hb18 b11.out)
    have ch18 := (ch17).trans (hb18.mono (ch17).size)
    clear ch17
    clear hb18
    have e1 := box2 b11.out
    obtain ⟨e1a, e1b⟩ := e1
    go_wp2_with fail
    clear e1a e1b
    refine (none0_at _).mono ?_
    rintro e w19 ⟨rfl, hb19⟩
    have hl := Lib.hid ((hl.out.below hb19).mono hb19.size)
    have hu := Lib.hid ((hu.out.below hb19).mono hb19.size)
    have hv' := Lib.hid ((hv'.out.below hb19).mono hb19.size)
    have hco := Lib.hid ((hco.out.below hb19).mono hb19.size)
    have b5 := Lib.hid (blk_lift hb19 b5.out)
    have bf := Lib.hid (blk_lift hb19 bf.out)
    have b9 := Lib.hid (blk_lift hb19 b9.out)
    have b11 := Lib.hid (blk_lift hb19 b11.out)
    have ch19 := (ch18).trans (hb19.mono (ch18).size)
    clear ch18
    clear hb19
    go_wp2_with fail
    refine (awake03 _).mono ?_
    rintro e w20 ⟨rfl, hb20⟩
    have hl := Lib.hid ((hl.out.below hb20).mono hb20.size)
    have hu := Lib.hid ((hu.out.below hb20).mono hb20.size)
    have hv' := Lib.hid ((hv'.out.below hb20).mono hb20.size)
    have hco := Lib.hid ((hco.out.below hb20).mono hb20.size)
    have b5 := Lib.hid (blk_lift hb20 b5.out)
    have bf := Lib.hid (blk_lift hb20 bf.out)
    have b9 := Lib.hid (blk_lift hb20 b9.out)
    have b11 := Lib.hid (blk_lift hb20 b11.out)
    have ch20 := (ch19).trans (hb20.mono (ch19).size)
    clear ch19
    clear hb20
    go_wp2
    go_ret
    exact ⟨rfl, ch20⟩)

set_option maxRecDepth 100000 in
set_option maxHeartbeats 8000000 in
theorem law_RunSteps_vyend {w : World} (v : Value) (l : List Ins) (hl : InsRow w w.heap.size v l) (s : ByteArray) (hs : s.size ≤ 140737488355328) (hx : isTree s = false) (n : Int) (au : Option Addr) (LL cu : Nat) (L : List ByteArray) (HLL : Hid (L.length = LL)) (hn : i64 n) (hz : L.length ≤ 8796093022208) (hu : StrRow w w.heap.size (.slice au LL cu) L) (hv : validB l = true) (hf : fitsB n l.length L = true) (he : Hid (n = l.length)) :
    Calls Try.prog 15 #[v, .string s, .agg #[.int .i64 n, .slice au LL cu]] w fun e w' => e = .returned (.bool true) ∧ Below w.heap.size w w' := by
    have hl := Lib.hid hl
    have hu := Lib.hid hu
    obtain ⟨W0, hW0⟩ : ∃ W0, w.alloc (.cells #[.int .i64 n, .slice au LL cu] 53) = W0 := ⟨_, rfl⟩
    have hq0 : Below w.heap.size w W0 := by rw [← hW0]; exact alloc_below _ _
    have b5 := Lib.hid (show W0.heap[w.heap.size]? = some (.cells #[.int .i64 n, .slice au LL cu] 53 (0, 0)) by rw [← hW0]; exact box2_new _ _ _ _)
    have hl := Lib.hid ((hl.out.below hq0).mono hq0.size)
    have hu := Lib.hid ((hu.out.below hq0).mono hq0.size)
    have HQ0 := Lib.hid hq0
    have e00 := box2 b5.out
    obtain ⟨e00, e01⟩ := e00
    clear hq0
    go_enter Try.func15, Try.ntmps15
    have kTw : Hid (∀ w', Below W0.heap.size W0 w' → Calls Try.prog 20 #[v] w' fun e w'' => ∃ v', e = .returned v' ∧ Hid (InsRow w'' w''.heap.size v' l) ∧ Hid (Below w'.heap.size w' w'') ∧ Below W0.heap.size W0 w'') := fun w' hb => (twin_any v l w' ((hl.out.below hb).mono hb.size)).mono fun e w'' ⟨v', h1, h2, h3⟩ => ⟨v', h1, h2, h3, hb.trans (h3.mono hb.size)⟩
    have kCo : Hid (∀ w', Below W0.heap.size W0 w' → Calls Try.prog 48 #[.agg #[.int .i64 n, .slice au LL cu]] w' fun e w'' => ∃ ac cc, e = .returned (.agg #[.int .i64 n, .slice ac LL cc]) ∧ Hid (StrRow w'' w''.heap.size (.slice ac LL cc) L) ∧ Hid (Below w'.heap.size w' w'') ∧ Below W0.heap.size W0 w'') := fun w' hb => by
      refine (copied_any n _ L hz w' ((hu.out.below hb).mono hb.size)).mono ?_
      rintro e w'' ⟨a, c, h1, h2, h3⟩
      rw [HLL.out] at h1 h2
      exact ⟨a, c, h1, h2, h3, hb.trans (h3.mono hb.size)⟩
    have KEEP := Lib.hid (box2_keep b5.out)
    go_wp2
    go_region_held3 (fun w' => w'.cell? ⟨w.heap.size, 0, none⟩ = some (.int .i64 n) ∧ w'.cell? ⟨w.heap.size, 1, none⟩ = some (.slice au LL cu))
      (with_reducible (first | exact KEEP.out _ (hzC.alloc hzC.size _) | exact KEEP.out _ (hzC.alloc hzC.size _).drew | exact KEEP.out _ hzC | exact KEEP.out _ hzC.drew | exact KEEP.out _ (hzT.alloc hzT.size _) | exact KEEP.out _ (hzT.alloc hzT.size _).drew | exact KEEP.out _ hzT | exact KEEP.out _ hzT.drew | exact KEEP.out _ (Below.refl _ _) | exact KEEP.out _ (Below.refl _ _).drew | exact KEEP.out _ (alloc_below _ _) | exact KEEP.out _ (alloc_below _ _).drew | (have hzS := hzC; have hzR := hzT; exact KEEP.out _ ((hzS.setCell (by first | exact hzR.size | exact Nat.le_refl _) _).setCell (by first | exact hzR.size | exact Nat.le_refl _) _)) | (have hzS := hzC; have hzR := hzT; exact KEEP.out _ ((hzS.setCell (by first | exact hzR.size | exact Nat.le_refl _) _).setCell (by first | exact hzR.size | exact Nat.le_refl _) _).drew) | fail "keep"))
      ((first
        | ((with_reducible refine (kTw.out _ (by first | exact Below.refl _ _ | exact (Below.refl _ _).drew | exact alloc_below _ _ | exact (alloc_below _ _).drew | exact (Below.refl _ _).drew.alloc (Nat.le_refl _) _)).mono ?_); rintro e wT ⟨v', rfl, hv', hlT, hzT⟩)
        | ((with_reducible refine (kCo.out _ (by first | exact hzT | exact hzT.alloc hzT.size _)).mono ?_); rintro e wC ⟨ac, cc, rfl, hco, hlC, hzC⟩; (first | (have hb8 := blk_lift hlC.out (box2_new wT _ _ _); obtain ⟨k80, k81, k82, k83⟩ := box4 hb8; have hb08 := Lib.hid hb8; clear hb8) | (have hb8 := blk_lift hlC.out (blk_lift_drew hlT.out (box2_new W0 _ _ _)); obtain ⟨k80, k81, k82, k83⟩ := box4 hb8; have hb08 := Lib.hid hb8; clear hb8) | (have hb8 := blk_lift hlC.out (blk_lift hlT.out (box2_new W0 _ _ _)); obtain ⟨k80, k81, k82, k83⟩ := box4 hb8; have hb08 := Lib.hid hb8; clear hb8) | skip))
        | (fail "arm")))
    all_goals (
    (first | (have BF := (BoxFin.set (W0 := W0) (A := wC) (.int .i64 n) (.slice ac LL cc) hb08.out (by intro s h; cases h) (by intro s h; cases h) (by first | exact Nat.le_refl _ | exact hzT.size))) | (have BF := (BoxFin.alloc (W0 := W0) (A := wC) 53 (.int .i64 n) (.slice ac LL cc) hzC.size)))
    refine BoxFin.elimW BF ?_
    clear BF
    intro w8 BF
    refine BoxFin.elimB BF.out ?_
    clear BF
    intro b8 BF
    have b5 := Lib.hid (BF.out.blk' (by rw [← hW0]; simp) (blk_lift hzC b5.out))
    have bf := Lib.hid BF.out.blk
    have hl := Lib.hid (BF.out.ins ((hl.out.below hzC).mono hzC.size))
    have hu := Lib.hid (BF.out.str ((hu.out.below hzC).mono hzC.size))
    have hv' := Lib.hid (BF.out.ins (by first | exact (hv'.out.below hlC.out).mono hlC.out.size | exact (((hv'.out.below (alloc_below _ _)).mono (alloc_below _ _).size).below hlC.out).mono hlC.out.size))
    have hco := Lib.hid (BF.out.str hco.out)
    have ch8 := HQ0.out.trans ((BF.out.below hzC).mono HQ0.out.size)
    clear BF HQ0 hzC hlC hlT hzT kTw kCo KEEP e00 e01
    try clear hb08 k80 k81 k82 k83
    go_wp2_with fail
    refine (first_bad v l _ hs _ hl.out (.inr hx)).mono ?_
    rintro e w9 ⟨rfl, hb9⟩
    have hl := Lib.hid ((hl.out.below hb9).mono hb9.size)
    have hu := Lib.hid ((hu.out.below hb9).mono hb9.size)
    have hv' := Lib.hid ((hv'.out.below hb9).mono hb9.size)
    have hco := Lib.hid ((hco.out.below hb9).mono hb9.size)
    have b5 := Lib.hid (blk_lift hb9 b5.out)
    have bf := Lib.hid (blk_lift hb9 bf.out)
    have ch9 := (ch8).trans (hb9.mono (ch8).size)
    clear ch8
    clear hb9
    have e1 := box2 (blk_lift (alloc_below w9 (.cells #[.int .i64 0, .slice none 0 0] 53)) b5.out)
    obtain ⟨e1a, e1b⟩ := e1
    go_wp2_with fail
    clear e1a e1b
    obtain ⟨w10, hW⟩ : ∃ B, w9.alloc (.cells #[.int .i64 0, .slice none 0 0] 53) = B := ⟨_, rfl⟩
    rw [hW]
    have hbB : Below w9.heap.size w9 w10 := by rw [← hW]; exact alloc_below _ _
    have b9 := Lib.hid (show w10.heap[w9.heap.size]? = some (.cells #[.int .i64 0, .slice none 0 0] 53 (0, 0)) by rw [← hW]; exact box2_new _ _ _ _)
    clear hW
    have hl := Lib.hid ((hl.out.below hbB).mono hbB.size)
    have hu := Lib.hid ((hu.out.below hbB).mono hbB.size)
    have hv' := Lib.hid ((hv'.out.below hbB).mono hbB.size)
    have hco := Lib.hid ((hco.out.below hbB).mono hbB.size)
    have b5 := Lib.hid (blk_lift hbB b5.out)
    have bf := Lib.hid (blk_lift hbB bf.out)
    have ch10 := (ch9).trans (hbB.mono (ch9).size)
    clear ch9
    clear hbB
    refine (step_end_at hv hf he.out hl.out hu.out).mono ?_
    rintro e w11 ⟨rfl, hb11⟩
    have hl := Lib.hid ((hl.out.below hb11).mono hb11.size)
    have hu := Lib.hid ((hu.out.below hb11).mono hb11.size)
    have hv' := Lib.hid ((hv'.out.below hb11).mono hb11.size)
    have hco := Lib.hid ((hco.out.below hb11).mono hb11.size)
    have b5 := Lib.hid (blk_lift hb11 b5.out)
    have bf := Lib.hid (blk_lift hb11 bf.out)
    have b9 := Lib.hid (blk_lift hb11 b9.out)
    have ch11 := (ch10).trans (hb11.mono (ch10).size)
    clear ch10
    clear hb11
    go_wp2_with fail
    obtain ⟨w12, hW⟩ : ∃ B, w11.alloc (.cells #[.int .i64 0, .slice none 0 0] 53) = B := ⟨_, rfl⟩
    rw [hW]
    have hbB : Below w11.heap.size w11 w12 := by rw [← hW]; exact alloc_below _ _
    have b11 := Lib.hid (show w12.heap[w11.heap.size]? = some (.cells #[.int .i64 0, .slice none 0 0] 53 (0, 0)) by rw [← hW]; exact box2_new _ _ _ _)
    clear hW
    have hl := Lib.hid ((hl.out.below hbB).mono hbB.size)
    have hu := Lib.hid ((hu.out.below hbB).mono hbB.size)
    have hv' := Lib.hid ((hv'.out.below hbB).mono hbB.size)
    have hco := Lib.hid ((hco.out.below hbB).mono hbB.size)
    have b5 := Lib.hid (blk_lift hbB b5.out)
    have bf := Lib.hid (blk_lift hbB bf.out)
    have b9 := Lib.hid (blk_lift hbB b9.out)
    have ch12 := (ch11).trans (hbB.mono (ch11).size)
    clear ch11
    clear hbB
    refine (same_self hl.out hv'.out).mono ?_
    rintro e w13 ⟨rfl, hb13⟩
    have hl := Lib.hid ((hl.out.below hb13).mono hb13.size)
    have hu := Lib.hid ((hu.out.below hb13).mono hb13.size)
    have hv' := Lib.hid ((hv'.out.below hb13).mono hb13.size)
    have hco := Lib.hid ((hco.out.below hb13).mono hb13.size)
    have b5 := Lib.hid (blk_lift hb13 b5.out)
    have bf := Lib.hid (blk_lift hb13 bf.out)
    have b9 := Lib.hid (blk_lift hb13 b9.out)
    have b11 := Lib.hid (blk_lift hb13 b11.out)
    have ch13 := (ch12).trans (hb13.mono (ch12).size)
    clear ch12
    clear hb13
    have e1 := box2 b5.out
    obtain ⟨e1a, e1b⟩ := e1
    have e2 := box2 bf.out
    obtain ⟨e2a, e2b⟩ := e2
    go_wp2_with fail
    clear e1a e1b
    clear e2a e2b
    refine (sameState_at rfl rfl hu.out hco.out).mono ?_
    rintro e w14 ⟨rfl, hb14⟩
    have hl := Lib.hid ((hl.out.below hb14).mono hb14.size)
    have hu := Lib.hid ((hu.out.below hb14).mono hb14.size)
    have hv' := Lib.hid ((hv'.out.below hb14).mono hb14.size)
    have hco := Lib.hid ((hco.out.below hb14).mono hb14.size)
    have b5 := Lib.hid (blk_lift hb14 b5.out)
    have bf := Lib.hid (blk_lift hb14 bf.out)
    have b9 := Lib.hid (blk_lift hb14 b9.out)
    have b11 := Lib.hid (blk_lift hb14 b11.out)
    have ch14 := (ch13).trans (hb14.mono (ch13).size)
    clear ch13
    clear hb14
    go_wp2_with fail
    refine (cvalid_at true hv hl.out).mono ?_
    rintro e w15 ⟨rfl, hb15⟩
    have hl := Lib.hid ((hl.out.below hb15).mono hb15.size)
    have hu := Lib.hid ((hu.out.below hb15).mono hb15.size)
    have hv' := Lib.hid ((hv'.out.below hb15).mono hb15.size)
    have hco := Lib.hid ((hco.out.below hb15).mono hb15.size)
    have b5 := Lib.hid (blk_lift hb15 b5.out)
    have bf := Lib.hid (blk_lift hb15 bf.out)
    have b9 := Lib.hid (blk_lift hb15 b9.out)
    have b11 := Lib.hid (blk_lift hb15 b11.out)
    have ch15 := (ch14).trans (hb15.mono (ch14).size)
    clear ch14
    clear hb15
    go_wp2_with fail
    refine (tvalid_at _ hs false hx _).mono ?_
    rintro e w16 ⟨rfl, hb16⟩
    have hl := Lib.hid ((hl.out.below hb16).mono hb16.size)
    have hu := Lib.hid ((hu.out.below hb16).mono hb16.size)
    have hv' := Lib.hid ((hv'.out.below hb16).mono hb16.size)
    have hco := Lib.hid ((hco.out.below hb16).mono hb16.size)
    have b5 := Lib.hid (blk_lift hb16 b5.out)
    have bf := Lib.hid (blk_lift hb16 bf.out)
    have b9 := Lib.hid (blk_lift hb16 b9.out)
    have b11 := Lib.hid (blk_lift hb16 b11.out)
    have ch16 := (ch15).trans (hb16.mono (ch15).size)
    clear ch15
    clear hb16
    have e1 := box2 b9.out
    obtain ⟨e1a, e1b⟩ := e1
    go_wp2_with fail
    clear e1a e1b
    refine (none0_at _).mono ?_
    rintro e w17 ⟨rfl, hb17⟩
    have hl := Lib.hid ((hl.out.below hb17).mono hb17.size)
    have hu := Lib.hid ((hu.out.below hb17).mono hb17.size)
    have hv' := Lib.hid ((hv'.out.below hb17).mono hb17.size)
    have hco := Lib.hid ((hco.out.below hb17).mono hb17.size)
    have b5 := Lib.hid (blk_lift hb17 b5.out)
    have bf := Lib.hid (blk_lift hb17 bf.out)
    have b9 := Lib.hid (blk_lift hb17 b9.out)
    have b11 := Lib.hid (blk_lift hb17 b11.out)
    have ch17 := (ch16).trans (hb17.mono (ch16).size)
    clear ch16
    clear hb17
    have e1 := box2 b5.out
    obtain ⟨e1a, e1b⟩ := e1
    go_wp2_with fail
    clear e1a e1b
    refine (fits3_at true hf hn hl.out hu.out).mono ?_
    rintro e w18 ⟨rfl, hb18⟩
    have hl := Lib.hid ((hl.out.below hb18).mono hb18.size)
    have hu := Lib.hid ((hu.out.below hb18).mono hb18.size)
    have hv' := Lib.hid ((hv'.out.below hb18).mono hb18.size)
    have hco := Lib.hid ((hco.out.below hb18).mono hb18.size)
    have b5 := Lib.hid (blk_lift hb18 b5.out)
    have bf := Lib.hid (blk_lift hb18 bf.out)
    have b9 := Lib.hid (blk_lift hb18 b9.out)
    have b11 := Lib.hid (blk_lift hb18 b11.out)
    have ch18 := (ch17).trans (hb18.mono (ch17).size)
    clear ch17
    clear hb18
    have KEEP := Lib.hid (box2_keep b5.out)
    have kL := Lib.hid (load_hid (w := w18) hl.out hv)
    have kD := Lib.hid (rread_hid (w := w18) hf hu.out (l := l) (v := v))
    go_wp2
    go_region_held3 (fun w' => w'.cell? ⟨w.heap.size, 0, none⟩ = some (.int .i64 n) ∧ w'.cell? ⟨w.heap.size, 1, none⟩ = some (.slice au LL cu))
      (with_reducible (first | exact KEEP.out _ (hzd.alloc hzd.size _) | exact KEEP.out _ (hzd.alloc hzd.size _).drew | exact KEEP.out _ hzd | exact KEEP.out _ hzd.drew | exact KEEP.out _ (hza.alloc hza.size _) | exact KEEP.out _ (hza.alloc hza.size _).drew | exact KEEP.out _ hza | exact KEEP.out _ hza.drew | exact KEEP.out _ (Below.refl _ _) | exact KEEP.out _ (Below.refl _ _).drew | exact KEEP.out _ (alloc_below _ _) | exact KEEP.out _ (alloc_below _ _).drew | fail "keep"))
      ((first
        | ((with_reducible refine (kL.out _ (by first | exact Below.refl _ _ | exact (Below.refl _ _).drew)).mono ?_); rintro e wa ⟨gm, tv, rfl, hm, hza⟩)
        | ((with_reducible refine (kD.out _ gm tv hm.out hza).mono ?_); rintro e w19 ⟨gs, rfl, hbo, hzd⟩)
        | (fail "arm")))
    have hl := Lib.hid ((hl.out.below hzd).mono hzd.size)
    have hu := Lib.hid ((hu.out.below hzd).mono hzd.size)
    have hv' := Lib.hid ((hv'.out.below hzd).mono hzd.size)
    have hco := Lib.hid ((hco.out.below hzd).mono hzd.size)
    have b5 := Lib.hid (blk_lift hzd b5.out)
    have bf := Lib.hid (blk_lift hzd bf.out)
    have b9 := Lib.hid (blk_lift hzd b9.out)
    have b11 := Lib.hid (blk_lift hzd b11.out)
    have ch19 := (ch18).trans (hzd.mono (ch18).size)
    clear ch18
    clear kL kD KEEP hzd
    obtain ⟨T, hT, hbo⟩ := hbo.out
    have hT : w18.heap.size ≤ T := hT
    go_wp2_with fail
    refine (ended_at3 true (by have h1 := he.out; have h2 := (fitsB_iff hf).1; show (((n.toNat : Nat) : Int) == (l.length : Int)) = _; simp; omega) hbo).mono ?_
    rintro e w20 ⟨rfl, hbo2, hb20⟩
    have hl := Lib.hid ((hl.out.below hb20).mono hb20.size)
    have hu := Lib.hid ((hu.out.below hb20).mono hb20.size)
    have hv' := Lib.hid ((hv'.out.below hb20).mono hb20.size)
    have hco := Lib.hid ((hco.out.below hb20).mono hb20.size)
    have b5 := Lib.hid (blk_lift hb20 b5.out)
    have bf := Lib.hid (blk_lift hb20 bf.out)
    have b9 := Lib.hid (blk_lift hb20 b9.out)
    have b11 := Lib.hid (blk_lift hb20 b11.out)
    have ch20 := (ch19).trans (hb20.mono (ch19).size)
    clear ch19
    clear hb20
    have e1 := box2 b11.out
    obtain ⟨e1a, e1b⟩ := e1
    go_wp2_with fail
    clear e1a e1b
    refine (none0_at _).mono ?_
    rintro e w21 ⟨rfl, hb21⟩
    have hl := Lib.hid ((hl.out.below hb21).mono hb21.size)
    have hu := Lib.hid ((hu.out.below hb21).mono hb21.size)
    have hv' := Lib.hid ((hv'.out.below hb21).mono hb21.size)
    have hco := Lib.hid ((hco.out.below hb21).mono hb21.size)
    have b5 := Lib.hid (blk_lift hb21 b5.out)
    have bf := Lib.hid (blk_lift hb21 bf.out)
    have b9 := Lib.hid (blk_lift hb21 b9.out)
    have b11 := Lib.hid (blk_lift hb21 b11.out)
    have ch21 := (ch20).trans (hb21.mono (ch20).size)
    clear ch20
    clear hb21
    go_wp2_with fail
    refine (awake03 _).mono ?_
    rintro e w22 ⟨rfl, hb22⟩
    have hl := Lib.hid ((hl.out.below hb22).mono hb22.size)
    have hu := Lib.hid ((hu.out.below hb22).mono hb22.size)
    have hv' := Lib.hid ((hv'.out.below hb22).mono hb22.size)
    have hco := Lib.hid ((hco.out.below hb22).mono hb22.size)
    have b5 := Lib.hid (blk_lift hb22 b5.out)
    have bf := Lib.hid (blk_lift hb22 bf.out)
    have b9 := Lib.hid (blk_lift hb22 b9.out)
    have b11 := Lib.hid (blk_lift hb22 b11.out)
    have ch22 := (ch21).trans (hb22.mono (ch21).size)
    clear ch21
    clear hb22
    go_wp2
    go_ret
    exact ⟨rfl, ch22⟩)

set_option maxRecDepth 100000 in
set_option maxHeartbeats 8000000 in
theorem law_RunSteps_vybig {w : World} (v : Value) (l : List Ins) (hl : InsRow w w.heap.size v l) (s : ByteArray) (hs : s.size ≤ 140737488355328) (hx : isTree s = false) (n : Int) (au : Option Addr) (LL cu : Nat) (L : List ByteArray) (HLL : Hid (L.length = LL)) (hn : i64 n) (hz : L.length ≤ 8796093022208) (hu : StrRow w w.heap.size (.slice au LL cu) L) (hv : validB l = true) (hf : fitsB n l.length L = true) (he : Hid (n ≠ l.length)) (hst : stepP l ⟨n.toNat, L.map toTr⟩ = none) :
    Calls Try.prog 15 #[v, .string s, .agg #[.int .i64 n, .slice au LL cu]] w fun e w' => e = .returned (.bool true) ∧ Below w.heap.size w w' := by
    have hl := Lib.hid hl
    have hu := Lib.hid hu
    obtain ⟨W0, hW0⟩ : ∃ W0, w.alloc (.cells #[.int .i64 n, .slice au LL cu] 53) = W0 := ⟨_, rfl⟩
    have hq0 : Below w.heap.size w W0 := by rw [← hW0]; exact alloc_below _ _
    have b5 := Lib.hid (show W0.heap[w.heap.size]? = some (.cells #[.int .i64 n, .slice au LL cu] 53 (0, 0)) by rw [← hW0]; exact box2_new _ _ _ _)
    have hl := Lib.hid ((hl.out.below hq0).mono hq0.size)
    have hu := Lib.hid ((hu.out.below hq0).mono hq0.size)
    have HQ0 := Lib.hid hq0
    have e00 := box2 b5.out
    obtain ⟨e00, e01⟩ := e00
    clear hq0
    go_enter Try.func15, Try.ntmps15
    have kTw : Hid (∀ w', Below W0.heap.size W0 w' → Calls Try.prog 20 #[v] w' fun e w'' => ∃ v', e = .returned v' ∧ Hid (InsRow w'' w''.heap.size v' l) ∧ Hid (Below w'.heap.size w' w'') ∧ Below W0.heap.size W0 w'') := fun w' hb => (twin_any v l w' ((hl.out.below hb).mono hb.size)).mono fun e w'' ⟨v', h1, h2, h3⟩ => ⟨v', h1, h2, h3, hb.trans (h3.mono hb.size)⟩
    have kCo : Hid (∀ w', Below W0.heap.size W0 w' → Calls Try.prog 48 #[.agg #[.int .i64 n, .slice au LL cu]] w' fun e w'' => ∃ ac cc, e = .returned (.agg #[.int .i64 n, .slice ac LL cc]) ∧ Hid (StrRow w'' w''.heap.size (.slice ac LL cc) L) ∧ Hid (Below w'.heap.size w' w'') ∧ Below W0.heap.size W0 w'') := fun w' hb => by
      refine (copied_any n _ L hz w' ((hu.out.below hb).mono hb.size)).mono ?_
      rintro e w'' ⟨a, c, h1, h2, h3⟩
      rw [HLL.out] at h1 h2
      exact ⟨a, c, h1, h2, h3, hb.trans (h3.mono hb.size)⟩
    have KEEP := Lib.hid (box2_keep b5.out)
    go_wp2
    go_region_held3 (fun w' => w'.cell? ⟨w.heap.size, 0, none⟩ = some (.int .i64 n) ∧ w'.cell? ⟨w.heap.size, 1, none⟩ = some (.slice au LL cu))
      (with_reducible (first | exact KEEP.out _ (hzC.alloc hzC.size _) | exact KEEP.out _ (hzC.alloc hzC.size _).drew | exact KEEP.out _ hzC | exact KEEP.out _ hzC.drew | exact KEEP.out _ (hzT.alloc hzT.size _) | exact KEEP.out _ (hzT.alloc hzT.size _).drew | exact KEEP.out _ hzT | exact KEEP.out _ hzT.drew | exact KEEP.out _ (Below.refl _ _) | exact KEEP.out _ (Below.refl _ _).drew | exact KEEP.out _ (alloc_below _ _) | exact KEEP.out _ (alloc_below _ _).drew | (have hzS := hzC; have hzR := hzT; exact KEEP.out _ ((hzS.setCell (by first | exact hzR.size | exact Nat.le_refl _) _).setCell (by first | exact hzR.size | exact Nat.le_refl _) _)) | (have hzS := hzC; have hzR := hzT; exact KEEP.out _ ((hzS.setCell (by first | exact hzR.size | exact Nat.le_refl _) _).setCell (by first | exact hzR.size | exact Nat.le_refl _) _).drew) | fail "keep"))
      ((first
        | ((with_reducible refine (kTw.out _ (by first | exact Below.refl _ _ | exact (Below.refl _ _).drew | exact alloc_below _ _ | exact (alloc_below _ _).drew | exact (Below.refl _ _).drew.alloc (Nat.le_refl _) _)).mono ?_); rintro e wT ⟨v', rfl, hv', hlT, hzT⟩)
        | ((with_reducible refine (kCo.out _ (by first | exact hzT | exact hzT.alloc hzT.size _)).mono ?_); rintro e wC ⟨ac, cc, rfl, hco, hlC, hzC⟩; (first | (have hb8 := blk_lift hlC.out (box2_new wT _ _ _); obtain ⟨k80, k81, k82, k83⟩ := box4 hb8; have hb08 := Lib.hid hb8; clear hb8) | (have hb8 := blk_lift hlC.out (blk_lift_drew hlT.out (box2_new W0 _ _ _)); obtain ⟨k80, k81, k82, k83⟩ := box4 hb8; have hb08 := Lib.hid hb8; clear hb8) | (have hb8 := blk_lift hlC.out (blk_lift hlT.out (box2_new W0 _ _ _)); obtain ⟨k80, k81, k82, k83⟩ := box4 hb8; have hb08 := Lib.hid hb8; clear hb8) | skip))
        | (fail "arm")))
    all_goals (
    (first | (have BF := (BoxFin.set (W0 := W0) (A := wC) (.int .i64 n) (.slice ac LL cc) hb08.out (by intro s h; cases h) (by intro s h; cases h) (by first | exact Nat.le_refl _ | exact hzT.size))) | (have BF := (BoxFin.alloc (W0 := W0) (A := wC) 53 (.int .i64 n) (.slice ac LL cc) hzC.size)))
    refine BoxFin.elimW BF ?_
    clear BF
    intro w8 BF
    refine BoxFin.elimB BF.out ?_
    clear BF
    intro b8 BF
    have b5 := Lib.hid (BF.out.blk' (by rw [← hW0]; simp) (blk_lift hzC b5.out))
    have bf := Lib.hid BF.out.blk
    have hl := Lib.hid (BF.out.ins ((hl.out.below hzC).mono hzC.size))
    have hu := Lib.hid (BF.out.str ((hu.out.below hzC).mono hzC.size))
    have hv' := Lib.hid (BF.out.ins (by first | exact (hv'.out.below hlC.out).mono hlC.out.size | exact (((hv'.out.below (alloc_below _ _)).mono (alloc_below _ _).size).below hlC.out).mono hlC.out.size))
    have hco := Lib.hid (BF.out.str hco.out)
    have ch8 := HQ0.out.trans ((BF.out.below hzC).mono HQ0.out.size)
    clear BF HQ0 hzC hlC hlT hzT kTw kCo KEEP e00 e01
    try clear hb08 k80 k81 k82 k83
    go_wp2_with fail
    refine (first_bad v l _ hs _ hl.out (.inr hx)).mono ?_
    rintro e w9 ⟨rfl, hb9⟩
    have hl := Lib.hid ((hl.out.below hb9).mono hb9.size)
    have hu := Lib.hid ((hu.out.below hb9).mono hb9.size)
    have hv' := Lib.hid ((hv'.out.below hb9).mono hb9.size)
    have hco := Lib.hid ((hco.out.below hb9).mono hb9.size)
    have b5 := Lib.hid (blk_lift hb9 b5.out)
    have bf := Lib.hid (blk_lift hb9 bf.out)
    have ch9 := (ch8).trans (hb9.mono (ch8).size)
    clear ch8
    clear hb9
    have e1 := box2 (blk_lift (alloc_below w9 (.cells #[.int .i64 0, .slice none 0 0] 53)) b5.out)
    obtain ⟨e1a, e1b⟩ := e1
    go_wp2_with fail
    clear e1a e1b
    obtain ⟨w10, hW⟩ : ∃ B, w9.alloc (.cells #[.int .i64 0, .slice none 0 0] 53) = B := ⟨_, rfl⟩
    rw [hW]
    have hbB : Below w9.heap.size w9 w10 := by rw [← hW]; exact alloc_below _ _
    have b9 := Lib.hid (show w10.heap[w9.heap.size]? = some (.cells #[.int .i64 0, .slice none 0 0] 53 (0, 0)) by rw [← hW]; exact box2_new _ _ _ _)
    clear hW
    have hl := Lib.hid ((hl.out.below hbB).mono hbB.size)
    have hu := Lib.hid ((hu.out.below hbB).mono hbB.size)
    have hv' := Lib.hid ((hv'.out.below hbB).mono hbB.size)
    have hco := Lib.hid ((hco.out.below hbB).mono hbB.size)
    have b5 := Lib.hid (blk_lift hbB b5.out)
    have bf := Lib.hid (blk_lift hbB bf.out)
    have ch10 := (ch9).trans (hbB.mono (ch9).size)
    clear ch9
    clear hbB
    refine (step_big_at hv hf he.out hst hl.out hu.out).mono ?_
    rintro e w11 ⟨rfl, hb11⟩
    have hl := Lib.hid ((hl.out.below hb11).mono hb11.size)
    have hu := Lib.hid ((hu.out.below hb11).mono hb11.size)
    have hv' := Lib.hid ((hv'.out.below hb11).mono hb11.size)
    have hco := Lib.hid ((hco.out.below hb11).mono hb11.size)
    have b5 := Lib.hid (blk_lift hb11 b5.out)
    have bf := Lib.hid (blk_lift hb11 bf.out)
    have b9 := Lib.hid (blk_lift hb11 b9.out)
    have ch11 := (ch10).trans (hb11.mono (ch10).size)
    clear ch10
    clear hb11
    go_wp2_with fail
    obtain ⟨w12, hW⟩ : ∃ B, w11.alloc (.cells #[.int .i64 0, .slice none 0 0] 53) = B := ⟨_, rfl⟩
    rw [hW]
    have hbB : Below w11.heap.size w11 w12 := by rw [← hW]; exact alloc_below _ _
    have b11 := Lib.hid (show w12.heap[w11.heap.size]? = some (.cells #[.int .i64 0, .slice none 0 0] 53 (0, 0)) by rw [← hW]; exact box2_new _ _ _ _)
    clear hW
    have hl := Lib.hid ((hl.out.below hbB).mono hbB.size)
    have hu := Lib.hid ((hu.out.below hbB).mono hbB.size)
    have hv' := Lib.hid ((hv'.out.below hbB).mono hbB.size)
    have hco := Lib.hid ((hco.out.below hbB).mono hbB.size)
    have b5 := Lib.hid (blk_lift hbB b5.out)
    have bf := Lib.hid (blk_lift hbB bf.out)
    have b9 := Lib.hid (blk_lift hbB b9.out)
    have ch12 := (ch11).trans (hbB.mono (ch11).size)
    clear ch11
    clear hbB
    refine (same_self hl.out hv'.out).mono ?_
    rintro e w13 ⟨rfl, hb13⟩
    have hl := Lib.hid ((hl.out.below hb13).mono hb13.size)
    have hu := Lib.hid ((hu.out.below hb13).mono hb13.size)
    have hv' := Lib.hid ((hv'.out.below hb13).mono hb13.size)
    have hco := Lib.hid ((hco.out.below hb13).mono hb13.size)
    have b5 := Lib.hid (blk_lift hb13 b5.out)
    have bf := Lib.hid (blk_lift hb13 bf.out)
    have b9 := Lib.hid (blk_lift hb13 b9.out)
    have b11 := Lib.hid (blk_lift hb13 b11.out)
    have ch13 := (ch12).trans (hb13.mono (ch12).size)
    clear ch12
    clear hb13
    have e1 := box2 b5.out
    obtain ⟨e1a, e1b⟩ := e1
    have e2 := box2 bf.out
    obtain ⟨e2a, e2b⟩ := e2
    go_wp2_with fail
    clear e1a e1b
    clear e2a e2b
    refine (sameState_at rfl rfl hu.out hco.out).mono ?_
    rintro e w14 ⟨rfl, hb14⟩
    have hl := Lib.hid ((hl.out.below hb14).mono hb14.size)
    have hu := Lib.hid ((hu.out.below hb14).mono hb14.size)
    have hv' := Lib.hid ((hv'.out.below hb14).mono hb14.size)
    have hco := Lib.hid ((hco.out.below hb14).mono hb14.size)
    have b5 := Lib.hid (blk_lift hb14 b5.out)
    have bf := Lib.hid (blk_lift hb14 bf.out)
    have b9 := Lib.hid (blk_lift hb14 b9.out)
    have b11 := Lib.hid (blk_lift hb14 b11.out)
    have ch14 := (ch13).trans (hb14.mono (ch13).size)
    clear ch13
    clear hb14
    go_wp2_with fail
    refine (cvalid_at true hv hl.out).mono ?_
    rintro e w15 ⟨rfl, hb15⟩
    have hl := Lib.hid ((hl.out.below hb15).mono hb15.size)
    have hu := Lib.hid ((hu.out.below hb15).mono hb15.size)
    have hv' := Lib.hid ((hv'.out.below hb15).mono hb15.size)
    have hco := Lib.hid ((hco.out.below hb15).mono hb15.size)
    have b5 := Lib.hid (blk_lift hb15 b5.out)
    have bf := Lib.hid (blk_lift hb15 bf.out)
    have b9 := Lib.hid (blk_lift hb15 b9.out)
    have b11 := Lib.hid (blk_lift hb15 b11.out)
    have ch15 := (ch14).trans (hb15.mono (ch14).size)
    clear ch14
    clear hb15
    go_wp2_with fail
    refine (tvalid_at _ hs false hx _).mono ?_
    rintro e w16 ⟨rfl, hb16⟩
    have hl := Lib.hid ((hl.out.below hb16).mono hb16.size)
    have hu := Lib.hid ((hu.out.below hb16).mono hb16.size)
    have hv' := Lib.hid ((hv'.out.below hb16).mono hb16.size)
    have hco := Lib.hid ((hco.out.below hb16).mono hb16.size)
    have b5 := Lib.hid (blk_lift hb16 b5.out)
    have bf := Lib.hid (blk_lift hb16 bf.out)
    have b9 := Lib.hid (blk_lift hb16 b9.out)
    have b11 := Lib.hid (blk_lift hb16 b11.out)
    have ch16 := (ch15).trans (hb16.mono (ch15).size)
    clear ch15
    clear hb16
    have e1 := box2 b9.out
    obtain ⟨e1a, e1b⟩ := e1
    go_wp2_with fail
    clear e1a e1b
    refine (none0_at _).mono ?_
    rintro e w17 ⟨rfl, hb17⟩
    have hl := Lib.hid ((hl.out.below hb17).mono hb17.size)
    have hu := Lib.hid ((hu.out.below hb17).mono hb17.size)
    have hv' := Lib.hid ((hv'.out.below hb17).mono hb17.size)
    have hco := Lib.hid ((hco.out.below hb17).mono hb17.size)
    have b5 := Lib.hid (blk_lift hb17 b5.out)
    have bf := Lib.hid (blk_lift hb17 bf.out)
    have b9 := Lib.hid (blk_lift hb17 b9.out)
    have b11 := Lib.hid (blk_lift hb17 b11.out)
    have ch17 := (ch16).trans (hb17.mono (ch16).size)
    clear ch16
    clear hb17
    have e1 := box2 b5.out
    obtain ⟨e1a, e1b⟩ := e1
    go_wp2_with fail
    clear e1a e1b
    refine (fits3_at true hf hn hl.out hu.out).mono ?_
    rintro e w18 ⟨rfl, hb18⟩
    have hl := Lib.hid ((hl.out.below hb18).mono hb18.size)
    have hu := Lib.hid ((hu.out.below hb18).mono hb18.size)
    have hv' := Lib.hid ((hv'.out.below hb18).mono hb18.size)
    have hco := Lib.hid ((hco.out.below hb18).mono hb18.size)
    have b5 := Lib.hid (blk_lift hb18 b5.out)
    have bf := Lib.hid (blk_lift hb18 bf.out)
    have b9 := Lib.hid (blk_lift hb18 b9.out)
    have b11 := Lib.hid (blk_lift hb18 b11.out)
    have ch18 := (ch17).trans (hb18.mono (ch17).size)
    clear ch17
    clear hb18
    have KEEP := Lib.hid (box2_keep b5.out)
    have kL := Lib.hid (load_hid (w := w18) hl.out hv)
    have kD := Lib.hid (rread_hid (w := w18) hf hu.out (l := l) (v := v))
    go_wp2
    go_region_held3 (fun w' => w'.cell? ⟨w.heap.size, 0, none⟩ = some (.int .i64 n) ∧ w'.cell? ⟨w.heap.size, 1, none⟩ = some (.slice au LL cu))
      (with_reducible (first | exact KEEP.out _ (hzd.alloc hzd.size _) | exact KEEP.out _ (hzd.alloc hzd.size _).drew | exact KEEP.out _ hzd | exact KEEP.out _ hzd.drew | exact KEEP.out _ (hza.alloc hza.size _) | exact KEEP.out _ (hza.alloc hza.size _).drew | exact KEEP.out _ hza | exact KEEP.out _ hza.drew | exact KEEP.out _ (Below.refl _ _) | exact KEEP.out _ (Below.refl _ _).drew | exact KEEP.out _ (alloc_below _ _) | exact KEEP.out _ (alloc_below _ _).drew | fail "keep"))
      ((first
        | ((with_reducible refine (kL.out _ (by first | exact Below.refl _ _ | exact (Below.refl _ _).drew)).mono ?_); rintro e wa ⟨gm, tv, rfl, hm, hza⟩)
        | ((with_reducible refine (kD.out _ gm tv hm.out hza).mono ?_); rintro e w19 ⟨gs, rfl, hbo, hzd⟩)
        | (fail "arm")))
    have hzD := hzd
    have b11R := b11
    have chR := ch18
    have hl := Lib.hid ((hl.out.below hzd).mono hzd.size)
    have hu := Lib.hid ((hu.out.below hzd).mono hzd.size)
    have hv' := Lib.hid ((hv'.out.below hzd).mono hzd.size)
    have hco := Lib.hid ((hco.out.below hzd).mono hzd.size)
    have b5 := Lib.hid (blk_lift hzd b5.out)
    have bf := Lib.hid (blk_lift hzd bf.out)
    have b9 := Lib.hid (blk_lift hzd b9.out)
    have b11 := Lib.hid (blk_lift hzd b11.out)
    have ch19 := (ch18).trans (hzd.mono (ch18).size)
    clear ch18
    clear kL kD KEEP hzd
    obtain ⟨T, hT, hbo⟩ := hbo.out
    have hT : w18.heap.size ≤ T := hT
    go_wp2_with fail
    refine (ended_at3 false (by have h1 := he.out; have h2 := (fitsB_iff hf).1; show (((n.toNat : Nat) : Int) == (l.length : Int)) = _; simp; omega) hbo).mono ?_
    rintro e w20 ⟨rfl, hbo2, hb20⟩
    have hzE := hb20
    have hl := Lib.hid ((hl.out.below hb20).mono hb20.size)
    have hu := Lib.hid ((hu.out.below hb20).mono hb20.size)
    have hv' := Lib.hid ((hv'.out.below hb20).mono hb20.size)
    have hco := Lib.hid ((hco.out.below hb20).mono hb20.size)
    have b5 := Lib.hid (blk_lift hb20 b5.out)
    have bf := Lib.hid (blk_lift hb20 bf.out)
    have b9 := Lib.hid (blk_lift hb20 b9.out)
    have b11 := Lib.hid (blk_lift hb20 b11.out)
    have ch20 := (ch19).trans (hb20.mono (ch19).size)
    clear ch19
    clear hb20
    go_wp2_with fail
    refine (rstepNo_at3 (B := T) hbo2.out (Nat.le_refl _) (fit_good hf) hv (by have := he.out; have := (fitsB_iff hf).1; show n.toNat ≠ l.length; omega) hst).mono ?_
    rintro e w21 ⟨rfl, hbT⟩
    have hbA : Below w18.heap.size w18 w21 := (hzD.trans (hzE.mono hzD.size)).trans (hbT.mono hT)
    clear hzD hzE
    have b11 := b11R
    have b11 := Lib.hid (blk_lift hbA b11.out)
    have ch21 := (chR).trans (hbA.mono (chR).size)
    clear chR
    clear hbA
    have e1 := box2 b11.out
    obtain ⟨e1a, e1b⟩ := e1
    go_wp2_with fail
    clear e1a e1b
    refine (none0_at _).mono ?_
    rintro e w22 ⟨rfl, hb22⟩
    have b11 := Lib.hid (blk_lift hb22 b11.out)
    have ch22 := (ch21).trans (hb22.mono (ch21).size)
    clear ch21
    clear hb22
    go_wp2_with fail
    refine (awake03 _).mono ?_
    rintro e w23 ⟨rfl, hb23⟩
    have b11 := Lib.hid (blk_lift hb23 b11.out)
    have ch23 := (ch22).trans (hb23.mono (ch22).size)
    clear ch22
    clear hb23
    go_wp2
    go_ret
    exact ⟨rfl, ch23⟩)

set_option maxRecDepth 100000 in
set_option maxHeartbeats 8000000 in
theorem law_RunSteps_vyok {w : World} (v : Value) (l : List Ins) (hl : InsRow w w.heap.size v l) (s : ByteArray) (hs : s.size ≤ 140737488355328) (hx : isTree s = false) (n : Int) (au : Option Addr) (LL cu : Nat) (L : List ByteArray) (HLL : Hid (L.length = LL)) (hn : i64 n) (hz : L.length ≤ 8796093022208) (hu : StrRow w w.heap.size (.slice au LL cu) L) (hv : validB l = true) (hf : fitsB n l.length L = true) (he : Hid (n ≠ l.length)) (s' : St) (hg : Good l.length s') (hst : stepP l ⟨n.toNat, L.map toTr⟩ = some s') :
    Calls Try.prog 15 #[v, .string s, .agg #[.int .i64 n, .slice au LL cu]] w fun e w' => e = .returned (.bool true) ∧ Below w.heap.size w w' := by
    have hl := Lib.hid hl
    have hu := Lib.hid hu
    obtain ⟨W0, hW0⟩ : ∃ W0, w.alloc (.cells #[.int .i64 n, .slice au LL cu] 53) = W0 := ⟨_, rfl⟩
    have hq0 : Below w.heap.size w W0 := by rw [← hW0]; exact alloc_below _ _
    have b5 := Lib.hid (show W0.heap[w.heap.size]? = some (.cells #[.int .i64 n, .slice au LL cu] 53 (0, 0)) by rw [← hW0]; exact box2_new _ _ _ _)
    have hl := Lib.hid ((hl.out.below hq0).mono hq0.size)
    have hu := Lib.hid ((hu.out.below hq0).mono hq0.size)
    have HQ0 := Lib.hid hq0
    have e00 := box2 b5.out
    obtain ⟨e00, e01⟩ := e00
    clear hq0
    go_enter Try.func15, Try.ntmps15
    have kTw : Hid (∀ w', Below W0.heap.size W0 w' → Calls Try.prog 20 #[v] w' fun e w'' => ∃ v', e = .returned v' ∧ Hid (InsRow w'' w''.heap.size v' l) ∧ Hid (Below w'.heap.size w' w'') ∧ Below W0.heap.size W0 w'') := fun w' hb => (twin_any v l w' ((hl.out.below hb).mono hb.size)).mono fun e w'' ⟨v', h1, h2, h3⟩ => ⟨v', h1, h2, h3, hb.trans (h3.mono hb.size)⟩
    have kCo : Hid (∀ w', Below W0.heap.size W0 w' → Calls Try.prog 48 #[.agg #[.int .i64 n, .slice au LL cu]] w' fun e w'' => ∃ ac cc, e = .returned (.agg #[.int .i64 n, .slice ac LL cc]) ∧ Hid (StrRow w'' w''.heap.size (.slice ac LL cc) L) ∧ Hid (Below w'.heap.size w' w'') ∧ Below W0.heap.size W0 w'') := fun w' hb => by
      refine (copied_any n _ L hz w' ((hu.out.below hb).mono hb.size)).mono ?_
      rintro e w'' ⟨a, c, h1, h2, h3⟩
      rw [HLL.out] at h1 h2
      exact ⟨a, c, h1, h2, h3, hb.trans (h3.mono hb.size)⟩
    have KEEP := Lib.hid (box2_keep b5.out)
    go_wp2
    go_region_held3 (fun w' => w'.cell? ⟨w.heap.size, 0, none⟩ = some (.int .i64 n) ∧ w'.cell? ⟨w.heap.size, 1, none⟩ = some (.slice au LL cu))
      (with_reducible (first | exact KEEP.out _ (hzC.alloc hzC.size _) | exact KEEP.out _ (hzC.alloc hzC.size _).drew | exact KEEP.out _ hzC | exact KEEP.out _ hzC.drew | exact KEEP.out _ (hzT.alloc hzT.size _) | exact KEEP.out _ (hzT.alloc hzT.size _).drew | exact KEEP.out _ hzT | exact KEEP.out _ hzT.drew | exact KEEP.out _ (Below.refl _ _) | exact KEEP.out _ (Below.refl _ _).drew | exact KEEP.out _ (alloc_below _ _) | exact KEEP.out _ (alloc_below _ _).drew | (have hzS := hzC; have hzR := hzT; exact KEEP.out _ ((hzS.setCell (by first | exact hzR.size | exact Nat.le_refl _) _).setCell (by first | exact hzR.size | exact Nat.le_refl _) _)) | (have hzS := hzC; have hzR := hzT; exact KEEP.out _ ((hzS.setCell (by first | exact hzR.size | exact Nat.le_refl _) _).setCell (by first | exact hzR.size | exact Nat.le_refl _) _).drew) | fail "keep"))
      ((first
        | ((with_reducible refine (kTw.out _ (by first | exact Below.refl _ _ | exact (Below.refl _ _).drew | exact alloc_below _ _ | exact (alloc_below _ _).drew | exact (Below.refl _ _).drew.alloc (Nat.le_refl _) _)).mono ?_); rintro e wT ⟨v', rfl, hv', hlT, hzT⟩)
        | ((with_reducible refine (kCo.out _ (by first | exact hzT | exact hzT.alloc hzT.size _)).mono ?_); rintro e wC ⟨ac, cc, rfl, hco, hlC, hzC⟩; (first | (have hb8 := blk_lift hlC.out (box2_new wT _ _ _); obtain ⟨k80, k81, k82, k83⟩ := box4 hb8; have hb08 := Lib.hid hb8; clear hb8) | (have hb8 := blk_lift hlC.out (blk_lift_drew hlT.out (box2_new W0 _ _ _)); obtain ⟨k80, k81, k82, k83⟩ := box4 hb8; have hb08 := Lib.hid hb8; clear hb8) | (have hb8 := blk_lift hlC.out (blk_lift hlT.out (box2_new W0 _ _ _)); obtain ⟨k80, k81, k82, k83⟩ := box4 hb8; have hb08 := Lib.hid hb8; clear hb8) | skip))
        | (fail "arm")))
    all_goals (
    (first | (have BF := (BoxFin.set (W0 := W0) (A := wC) (.int .i64 n) (.slice ac LL cc) hb08.out (by intro s h; cases h) (by intro s h; cases h) (by first | exact Nat.le_refl _ | exact hzT.size))) | (have BF := (BoxFin.alloc (W0 := W0) (A := wC) 53 (.int .i64 n) (.slice ac LL cc) hzC.size)))
    refine BoxFin.elimW BF ?_
    clear BF
    intro w8 BF
    refine BoxFin.elimB BF.out ?_
    clear BF
    intro b8 BF
    have b5 := Lib.hid (BF.out.blk' (by rw [← hW0]; simp) (blk_lift hzC b5.out))
    have bf := Lib.hid BF.out.blk
    have hl := Lib.hid (BF.out.ins ((hl.out.below hzC).mono hzC.size))
    have hu := Lib.hid (BF.out.str ((hu.out.below hzC).mono hzC.size))
    have hv' := Lib.hid (BF.out.ins (by first | exact (hv'.out.below hlC.out).mono hlC.out.size | exact (((hv'.out.below (alloc_below _ _)).mono (alloc_below _ _).size).below hlC.out).mono hlC.out.size))
    have hco := Lib.hid (BF.out.str hco.out)
    have ch8 := HQ0.out.trans ((BF.out.below hzC).mono HQ0.out.size)
    clear BF HQ0 hzC hlC hlT hzT kTw kCo KEEP e00 e01
    try clear hb08 k80 k81 k82 k83
    go_wp2_with fail
    refine (first_bad v l _ hs _ hl.out (.inr hx)).mono ?_
    rintro e w9 ⟨rfl, hb9⟩
    have hl := Lib.hid ((hl.out.below hb9).mono hb9.size)
    have hu := Lib.hid ((hu.out.below hb9).mono hb9.size)
    have hv' := Lib.hid ((hv'.out.below hb9).mono hb9.size)
    have hco := Lib.hid ((hco.out.below hb9).mono hb9.size)
    have b5 := Lib.hid (blk_lift hb9 b5.out)
    have bf := Lib.hid (blk_lift hb9 bf.out)
    have ch9 := (ch8).trans (hb9.mono (ch8).size)
    clear ch8
    clear hb9
    have e1 := box2 (blk_lift (alloc_below w9 (.cells #[.int .i64 0, .slice none 0 0] 53)) b5.out)
    obtain ⟨e1a, e1b⟩ := e1
    go_wp2_with fail
    clear e1a e1b
    obtain ⟨w10, hW⟩ : ∃ B, w9.alloc (.cells #[.int .i64 0, .slice none 0 0] 53) = B := ⟨_, rfl⟩
    rw [hW]
    have hbB : Below w9.heap.size w9 w10 := by rw [← hW]; exact alloc_below _ _
    have b9 := Lib.hid (show w10.heap[w9.heap.size]? = some (.cells #[.int .i64 0, .slice none 0 0] 53 (0, 0)) by rw [← hW]; exact box2_new _ _ _ _)
    clear hW
    have hl := Lib.hid ((hl.out.below hbB).mono hbB.size)
    have hu := Lib.hid ((hu.out.below hbB).mono hbB.size)
    have hv' := Lib.hid ((hv'.out.below hbB).mono hbB.size)
    have hco := Lib.hid ((hco.out.below hbB).mono hbB.size)
    have b5 := Lib.hid (blk_lift hbB b5.out)
    have bf := Lib.hid (blk_lift hbB bf.out)
    have ch10 := (ch9).trans (hbB.mono (ch9).size)
    clear ch9
    clear hbB
    refine (step_ok_at hv hf he.out hg.2.1 hst hl.out hu.out).mono ?_
    rintro e w11 ⟨a2, c2, rfl, hA2, hb11⟩
    have hl := Lib.hid ((hl.out.below hb11).mono hb11.size)
    have hu := Lib.hid ((hu.out.below hb11).mono hb11.size)
    have hv' := Lib.hid ((hv'.out.below hb11).mono hb11.size)
    have hco := Lib.hid ((hco.out.below hb11).mono hb11.size)
    have b5 := Lib.hid (blk_lift hb11 b5.out)
    have bf := Lib.hid (blk_lift hb11 bf.out)
    have b9 := Lib.hid (blk_lift hb11 b9.out)
    have ch11 := (ch10).trans (hb11.mono (ch10).size)
    clear ch10
    clear hb11
    have hA2 := Lib.hid hA2
    go_wp2_with fail
    obtain ⟨w12, hW⟩ : ∃ B, w11.alloc (.cells #[.int .i64 s'.pos, .slice a2 32 c2] 53) = B := ⟨_, rfl⟩
    rw [hW]
    have hbB : Below w11.heap.size w11 w12 := by rw [← hW]; exact alloc_below _ _
    have b11 := Lib.hid (show w12.heap[w11.heap.size]? = some (.cells #[.int .i64 s'.pos, .slice a2 32 c2] 53 (0, 0)) by rw [← hW]; exact box2_new _ _ _ _)
    clear hW
    have hl := Lib.hid ((hl.out.below hbB).mono hbB.size)
    have hu := Lib.hid ((hu.out.below hbB).mono hbB.size)
    have hv' := Lib.hid ((hv'.out.below hbB).mono hbB.size)
    have hco := Lib.hid ((hco.out.below hbB).mono hbB.size)
    have b5 := Lib.hid (blk_lift hbB b5.out)
    have bf := Lib.hid (blk_lift hbB bf.out)
    have b9 := Lib.hid (blk_lift hbB b9.out)
    have hA2 := Lib.hid ((hA2.out.below hbB).mono hbB.size)
    have ch12 := (ch11).trans (hbB.mono (ch11).size)
    clear ch11
    clear hbB
    refine (same_self hl.out hv'.out).mono ?_
    rintro e w13 ⟨rfl, hb13⟩
    have hl := Lib.hid ((hl.out.below hb13).mono hb13.size)
    have hu := Lib.hid ((hu.out.below hb13).mono hb13.size)
    have hv' := Lib.hid ((hv'.out.below hb13).mono hb13.size)
    have hco := Lib.hid ((hco.out.below hb13).mono hb13.size)
    have b5 := Lib.hid (blk_lift hb13 b5.out)
    have bf := Lib.hid (blk_lift hb13 bf.out)
    have b9 := Lib.hid (blk_lift hb13 b9.out)
    have hA2 := Lib.hid ((hA2.out.below hb13).mono hb13.size)
    have b11 := Lib.hid (blk_lift hb13 b11.out)
    have ch13 := (ch12).trans (hb13.mono (ch12).size)
    clear ch12
    clear hb13
    have e1 := box2 b5.out
    obtain ⟨e1a, e1b⟩ := e1
    have e2 := box2 bf.out
    obtain ⟨e2a, e2b⟩ := e2
    go_wp2_with fail
    clear e1a e1b
    clear e2a e2b
    refine (sameState_at rfl rfl hu.out hco.out).mono ?_
    rintro e w14 ⟨rfl, hb14⟩
    have hl := Lib.hid ((hl.out.below hb14).mono hb14.size)
    have hu := Lib.hid ((hu.out.below hb14).mono hb14.size)
    have hv' := Lib.hid ((hv'.out.below hb14).mono hb14.size)
    have hco := Lib.hid ((hco.out.below hb14).mono hb14.size)
    have b5 := Lib.hid (blk_lift hb14 b5.out)
    have bf := Lib.hid (blk_lift hb14 bf.out)
    have b9 := Lib.hid (blk_lift hb14 b9.out)
    have hA2 := Lib.hid ((hA2.out.below hb14).mono hb14.size)
    have b11 := Lib.hid (blk_lift hb14 b11.out)
    have ch14 := (ch13).trans (hb14.mono (ch13).size)
    clear ch13
    clear hb14
    go_wp2_with fail
    refine (cvalid_at true hv hl.out).mono ?_
    rintro e w15 ⟨rfl, hb15⟩
    have hl := Lib.hid ((hl.out.below hb15).mono hb15.size)
    have hu := Lib.hid ((hu.out.below hb15).mono hb15.size)
    have hv' := Lib.hid ((hv'.out.below hb15).mono hb15.size)
    have hco := Lib.hid ((hco.out.below hb15).mono hb15.size)
    have b5 := Lib.hid (blk_lift hb15 b5.out)
    have bf := Lib.hid (blk_lift hb15 bf.out)
    have b9 := Lib.hid (blk_lift hb15 b9.out)
    have hA2 := Lib.hid ((hA2.out.below hb15).mono hb15.size)
    have b11 := Lib.hid (blk_lift hb15 b11.out)
    have ch15 := (ch14).trans (hb15.mono (ch14).size)
    clear ch14
    clear hb15
    go_wp2_with fail
    refine (tvalid_at _ hs false hx _).mono ?_
    rintro e w16 ⟨rfl, hb16⟩
    have hl := Lib.hid ((hl.out.below hb16).mono hb16.size)
    have hu := Lib.hid ((hu.out.below hb16).mono hb16.size)
    have hv' := Lib.hid ((hv'.out.below hb16).mono hb16.size)
    have hco := Lib.hid ((hco.out.below hb16).mono hb16.size)
    have b5 := Lib.hid (blk_lift hb16 b5.out)
    have bf := Lib.hid (blk_lift hb16 bf.out)
    have b9 := Lib.hid (blk_lift hb16 b9.out)
    have hA2 := Lib.hid ((hA2.out.below hb16).mono hb16.size)
    have b11 := Lib.hid (blk_lift hb16 b11.out)
    have ch16 := (ch15).trans (hb16.mono (ch15).size)
    clear ch15
    clear hb16
    have e1 := box2 b9.out
    obtain ⟨e1a, e1b⟩ := e1
    go_wp2_with fail
    clear e1a e1b
    refine (none0_at _).mono ?_
    rintro e w17 ⟨rfl, hb17⟩
    have hl := Lib.hid ((hl.out.below hb17).mono hb17.size)
    have hu := Lib.hid ((hu.out.below hb17).mono hb17.size)
    have hv' := Lib.hid ((hv'.out.below hb17).mono hb17.size)
    have hco := Lib.hid ((hco.out.below hb17).mono hb17.size)
    have b5 := Lib.hid (blk_lift hb17 b5.out)
    have bf := Lib.hid (blk_lift hb17 bf.out)
    have b9 := Lib.hid (blk_lift hb17 b9.out)
    have hA2 := Lib.hid ((hA2.out.below hb17).mono hb17.size)
    have b11 := Lib.hid (blk_lift hb17 b11.out)
    have ch17 := (ch16).trans (hb17.mono (ch16).size)
    clear ch16
    clear hb17
    have e1 := box2 b5.out
    obtain ⟨e1a, e1b⟩ := e1
    go_wp2_with fail
    clear e1a e1b
    refine (fits3_at true hf hn hl.out hu.out).mono ?_
    rintro e w18 ⟨rfl, hb18⟩
    have hl := Lib.hid ((hl.out.below hb18).mono hb18.size)
    have hu := Lib.hid ((hu.out.below hb18).mono hb18.size)
    have hv' := Lib.hid ((hv'.out.below hb18).mono hb18.size)
    have hco := Lib.hid ((hco.out.below hb18).mono hb18.size)
    have b5 := Lib.hid (blk_lift hb18 b5.out)
    have bf := Lib.hid (blk_lift hb18 bf.out)
    have b9 := Lib.hid (blk_lift hb18 b9.out)
    have hA2 := Lib.hid ((hA2.out.below hb18).mono hb18.size)
    have b11 := Lib.hid (blk_lift hb18 b11.out)
    have ch18 := (ch17).trans (hb18.mono (ch17).size)
    clear ch17
    clear hb18
    have KEEP := Lib.hid (box2_keep b5.out)
    have kL := Lib.hid (load_hid (w := w18) hl.out hv)
    have kD := Lib.hid (rread_hid (w := w18) hf hu.out (l := l) (v := v))
    go_wp2
    go_region_held3 (fun w' => w'.cell? ⟨w.heap.size, 0, none⟩ = some (.int .i64 n) ∧ w'.cell? ⟨w.heap.size, 1, none⟩ = some (.slice au LL cu))
      (with_reducible (first | exact KEEP.out _ (hzd.alloc hzd.size _) | exact KEEP.out _ (hzd.alloc hzd.size _).drew | exact KEEP.out _ hzd | exact KEEP.out _ hzd.drew | exact KEEP.out _ (hza.alloc hza.size _) | exact KEEP.out _ (hza.alloc hza.size _).drew | exact KEEP.out _ hza | exact KEEP.out _ hza.drew | exact KEEP.out _ (Below.refl _ _) | exact KEEP.out _ (Below.refl _ _).drew | exact KEEP.out _ (alloc_below _ _) | exact KEEP.out _ (alloc_below _ _).drew | fail "keep"))
      ((first
        | ((with_reducible refine (kL.out _ (by first | exact Below.refl _ _ | exact (Below.refl _ _).drew)).mono ?_); rintro e wa ⟨gm, tv, rfl, hm, hza⟩)
        | ((with_reducible refine (kD.out _ gm tv hm.out hza).mono ?_); rintro e w19 ⟨gs, rfl, hbo, hzd⟩)
        | (fail "arm")))
    have hzD := hzd
    have b11R := b11
    have chR := ch18
    have hA2R := hA2
    have hl := Lib.hid ((hl.out.below hzd).mono hzd.size)
    have hu := Lib.hid ((hu.out.below hzd).mono hzd.size)
    have hv' := Lib.hid ((hv'.out.below hzd).mono hzd.size)
    have hco := Lib.hid ((hco.out.below hzd).mono hzd.size)
    have b5 := Lib.hid (blk_lift hzd b5.out)
    have bf := Lib.hid (blk_lift hzd bf.out)
    have b9 := Lib.hid (blk_lift hzd b9.out)
    have hA2 := Lib.hid ((hA2.out.below hzd).mono hzd.size)
    have b11 := Lib.hid (blk_lift hzd b11.out)
    have ch19 := (ch18).trans (hzd.mono (ch18).size)
    clear ch18
    clear kL kD KEEP hzd
    obtain ⟨T, hT, hbo⟩ := hbo.out
    have hT : w18.heap.size ≤ T := hT
    go_wp2_with fail
    refine (ended_at3 false (by have h1 := he.out; have h2 := (fitsB_iff hf).1; show (((n.toNat : Nat) : Int) == (l.length : Int)) = _; simp; omega) hbo).mono ?_
    rintro e w20 ⟨rfl, hbo2, hb20⟩
    have hzE := hb20
    have hl := Lib.hid ((hl.out.below hb20).mono hb20.size)
    have hu := Lib.hid ((hu.out.below hb20).mono hb20.size)
    have hv' := Lib.hid ((hv'.out.below hb20).mono hb20.size)
    have hco := Lib.hid ((hco.out.below hb20).mono hb20.size)
    have b5 := Lib.hid (blk_lift hb20 b5.out)
    have bf := Lib.hid (blk_lift hb20 bf.out)
    have b9 := Lib.hid (blk_lift hb20 b9.out)
    have hA2 := Lib.hid ((hA2.out.below hb20).mono hb20.size)
    have b11 := Lib.hid (blk_lift hb20 b11.out)
    have ch20 := (ch19).trans (hb20.mono (ch19).size)
    clear ch19
    clear hb20
    go_wp2_with fail
    refine (rstepOk_at3 (B := T) hbo2.out (Nat.le_refl _) (fit_good hf) hv (by have := he.out; have := (fitsB_iff hf).1; show n.toNat ≠ l.length; omega) hst).mono ?_
    rintro e w21 ⟨rfl, hst', hbT⟩
    have hbA : Below w18.heap.size w18 w21 := (hzD.trans (hzE.mono hzD.size)).trans (hbT.mono hT)
    clear hzD hzE
    have b11 := b11R
    have hA2 := hA2R
    have b11 := Lib.hid (blk_lift hbA b11.out)
    have hA2 := Lib.hid ((hA2.out.below hbA).mono hbA.size)
    have ch21 := (chR).trans (hbA.mono (chR).size)
    clear chR
    clear hbA
    have KEEP := Lib.hid (box2_keep b11.out)
    have kT := Lib.hid (rtext_hid (w := w21) s'.pos rfl hg)
    have kS := Lib.hid (sameState_hid (w := w21) (n := s'.pos) hA2.out)
    have kA := Lib.hid (awake_hid w21)
    go_wp2
    go_region_held3 (fun w' => w'.cell? ⟨w11.heap.size, 0, none⟩ = some (.int .i64 s'.pos) ∧ w'.cell? ⟨w11.heap.size, 1, none⟩ = some (.slice a2 32 c2))
      (with_reducible (first | exact KEEP.out _ (hzf.alloc hzf.size _) | exact KEEP.out _ (hzf.alloc hzf.size _).drew | exact KEEP.out _ hzf | exact KEEP.out _ hzf.drew | exact KEEP.out _ (hzd.alloc hzd.size _) | exact KEEP.out _ (hzd.alloc hzd.size _).drew | exact KEEP.out _ hzd | exact KEEP.out _ hzd.drew | exact KEEP.out _ (hzc.alloc hzc.size _) | exact KEEP.out _ (hzc.alloc hzc.size _).drew | exact KEEP.out _ hzc | exact KEEP.out _ hzc.drew | exact KEEP.out _ (Below.refl _ _) | exact KEEP.out _ (Below.refl _ _).drew | exact KEEP.out _ (alloc_below _ _) | exact KEEP.out _ (alloc_below _ _).drew | fail "keep"))
      ((first
        | ((with_reducible refine (kT.out _ gs (by first | exact hst'.out | exact st_drew hst'.out) (by first | exact Below.refl _ _ | exact (Below.refl _ _).drew)).mono ?_); rintro e wc ⟨x1, rfl, hx1, hzc⟩)
        | ((with_reducible refine (kS.out _ x1 hx1.out hzc).mono ?_); rintro e wf ⟨rfl, hzd⟩)
        | ((with_reducible refine (kA.out _ hzd).mono ?_); rintro e w22 ⟨rfl, hzf⟩)
        | (fail "arm")))
    have b11 := Lib.hid (blk_lift hzf b11.out)
    have hA2 := Lib.hid ((hA2.out.below hzf).mono hzf.size)
    have ch22 := (ch21).trans (hzf.mono (ch21).size)
    clear ch21
    go_wp2
    go_ret
    exact ⟨rfl, ch22⟩)

theorem law_RunSteps {w : World} (v : Value) (l : List Ins) (hl : InsRow w w.heap.size v l) (s : ByteArray) (hs : s.size ≤ 140737488355328) (n : Int) (u : Value) (L : List ByteArray) (hn : i64 n) (hu : StrRow w w.heap.size u L) (hz : L.length ≤ 8796093022208) :
    Calls Try.prog 15 #[v, .string s, .agg #[.int .i64 n, u]] w fun e w' => e = .returned (.bool true) ∧ Below w.heap.size w w' := by
  obtain ⟨au, cu, rfl⟩ := hu.len
  have HLL : Hid (L.length = L.length) := Lib.hid rfl
  cases hv : validB l
  · exact law_RunSteps_i v l hl s hs n au _ cu L HLL hn hz hu hv
  · have hstep : ∀ (hf : fitsB n l.length L = true) (s' : St), stepP l ⟨n.toNat, L.map toTr⟩ = some s' → Good l.length s' := fun hf s' h => (fit_good hf).step (validB_all hv) h
    cases hx : isTree s
    · cases hf : fitsB n l.length L
      · exact law_RunSteps_vybad v l hl s hs hx n au _ cu L HLL hn hz hu hv hf
      · by_cases he : n = l.length
        · exact law_RunSteps_vyend v l hl s hs hx n au _ cu L HLL hn hz hu hv hf (Lib.hid he)
        · cases hst : stepP l ⟨n.toNat, L.map toTr⟩ with
          | none => exact law_RunSteps_vybig v l hl s hs hx n au _ cu L HLL hn hz hu hv hf (Lib.hid he) hst
          | some s' => exact law_RunSteps_vyok v l hl s hs hx n au _ cu L HLL hn hz hu hv hf (Lib.hid he) s' (hstep hf s' hst) hst
    · obtain ⟨t, rfl, ht⟩ := isTree_get hx
      cases hf : fitsB n l.length L
      · exact law_RunSteps_vxbad v l hl t ht hs hx n au _ cu L HLL hn hz hu hv hf
      · by_cases he : n = l.length
        · exact law_RunSteps_vxend v l hl t ht hs hx n au _ cu L HLL hn hz hu hv hf (Lib.hid he)
        · cases hst : stepP l ⟨n.toNat, L.map toTr⟩ with
          | none => exact law_RunSteps_vxbig v l hl t ht hs hx n au _ cu L HLL hn hz hu hv hf (Lib.hid he) hst
          | some s' => exact law_RunSteps_vxok v l hl t ht hs hx n au _ cu L HLL hn hz hu hv hf (Lib.hid he) s' (hstep hf s' hst) hst

end Go.Proofs.Ytieocihlkpipmaa

namespace Go.Proofs.Ytieocihlkpipmaa
open Go.RowKit

theorem least_of {p : Nat → Prop} (n : Nat) (h : p n) : ∃ m, m ≤ n ∧ p m ∧ ∀ j, j < m → ¬ p j := by
  induction n using Nat.strongRecOn with
  | _ n ih =>
    by_cases e : ∃ j, j < n ∧ p j
    · obtain ⟨j, hj, hp⟩ := e
      obtain ⟨m, h1, h2, h3⟩ := ih j hj hp
      exact ⟨m, by omega, h2, h3⟩
    · exact ⟨n, Nat.le_refl _, h, fun j hj hp => e ⟨j, hj, hp⟩⟩
theorem dbl_least (t : Tr) (ht : t.size ≤ 2000000) : ∃ m, 1 ≤ m ∧ m ≤ 20 ∧ 2000000 < (dblT t m).size ∧ ∀ j, j < m → (dblT t j).size ≤ 2000000 := by
  have h20 : 2000000 < (dblT t 20).size := by
    have h1 := dblT_size t 20
    have h2 := t.size_pos
    have h3 : (2 : Nat) ^ 20 = 1048576 := by rfl
    rw [h3] at h1
    omega
  obtain ⟨m, h1, h2, h3⟩ := least_of (p := fun j => 2000000 < (dblT t j).size) 20 h20
  refine ⟨m, ?_, h1, h2, fun j hj => by have := h3 j hj; omega⟩
  cases m with
  | zero => simp only [dblT] at h2; omega
  | succ m => omega
theorem dbl_big_run (t : Tr) (m : Nat) (hm : 1 ≤ m) (hb : 2000000 < (dblT t m).size) (hs : ∀ j, j < m → (dblT t j).size ≤ 2000000) : goF dblP (2 * m - 1) 0 (startS t) = .big := by
  have h := dbl_run (List.replicate 31 .nil) (m - 1) 1 0 t (hs _ (by omega))
  rw [show 1 + 2 * (m - 1) = 2 * m - 1 by omega] at h
  refine h.trans (goF_big (by simp [dblP]) (dbl_big _ _ ?_))
  show 2000000 < (dblT t (m - 1 + 1)).size
  rw [show m - 1 + 1 = m by omega]; exact hb
theorem dbl_even (t : Tr) (q : Nat) (h : (dblT t q).size ≤ 2000000) : goF dblP (2 * q) 0 (startS t) = .fuel ⟨0, dblT t q :: List.replicate 31 .nil⟩ (2 * q) := by
  have := dbl_run (List.replicate 31 .nil) q 0 0 t h
  rw [Nat.zero_add] at this
  exact this.trans (goF_zero (by simp [dblP]))
theorem dbl_odd (t : Tr) (q : Nat) (h : (dblT t (q + 1)).size ≤ 2000000) : goF dblP (2 * q + 1) 0 (startS t) = .fuel ⟨1, dblT t (q + 1) :: List.replicate 31 .nil⟩ (2 * q + 1) := by
  have := dbl_run (List.replicate 31 .nil) q 1 0 t (Nat.le_trans (dblT_mono t q (q + 1) (by omega)) h)
  rw [Nat.zero_add, Nat.add_comm 1] at this
  refine this.trans ?_
  rw [goF_step (by simp [dblP]) (dbl_cons _ _ h)]
  exact goF_zero (by simp [dblP])
theorem dbl_at (t : Tr) (k : Nat) (h : (dblT t ((k + 1) / 2)).size ≤ 2000000) : ∃ p : Nat, goF dblP k 0 (startS t) = .fuel ⟨p, dblT t ((k + 1) / 2) :: List.replicate 31 .nil⟩ k := by
  by_cases he : k % 2 = 0
  · obtain ⟨q, rfl⟩ : ∃ q, k = 2 * q := ⟨k / 2, by omega⟩
    rw [show (2 * q + 1) / 2 = q by omega] at h ⊢
    exact ⟨_, dbl_even t q h⟩
  · obtain ⟨q, rfl⟩ : ∃ q, k = 2 * q + 1 := ⟨k / 2, by omega⟩
    rw [show (2 * q + 1 + 1) / 2 = q + 1 by omega] at h ⊢
    exact ⟨_, dbl_odd t q h⟩
theorem rem_int (c z : Int) (hz : 1 ≤ z) : ∃ d : Int, c.tmod z = d ∧ -z < d ∧ d < z ∧ ∃ k : Nat, (k : Int) < z ∧ (d + z).tmod z = k := by
  have h1 : -z < c.tmod z := by have := Int.tmod_lt_of_pos (-c) (show 0 < z by omega); rw [Int.neg_tmod] at this; omega
  have h2 : c.tmod z < z := Int.tmod_lt_of_pos c (by omega)
  have h3 := Int.tmod_lt_of_pos (c.tmod z + z) (show 0 < z by omega)
  have h4 := Int.tmod_nonneg z (show 0 ≤ c.tmod z + z by omega)
  exact ⟨_, rfl, h1, h2, ((c.tmod z + z).tmod z).toNat, by omega, by omega⟩
theorem afterOk_at {w : World} {v : Value} {l : List Ins} {t : Tr} {S : ByteArray} (K : Nat) (n : Int) (L : List ByteArray) (LL : Nat) (hL : L.length = LL) (m : Nat) (er : Int) (hr : (goF l K 0 (startS t)).after = (n, L, m, er)) (hv : validB l = true) (ht : t.size ≤ 2000000) (hS : TS t = S) (hK : K ≤ 10000000) (hl : InsRow w w.heap.size v l) :
    Calls Try.prog 38 #[v, .string S, .int .i64 K] w fun e w' => ∃ ua uc, e = .returned (.tuple #[.agg #[.int .i64 n, .slice ua LL uc], .int .i64 m, .int .i64 er]) ∧ StrRow w' w'.heap.size (.slice ua LL uc) L ∧ Below w.heap.size w w' := by
  rw [← hS]; exact aft_ok_ct hl hv t ht K hK n L LL hL m er hr w (Below.refl _ _)

set_option maxRecDepth 100000 in
set_option maxHeartbeats 4000000 in
theorem law_RunShared (x : ByteArray) (hx : x.size ≤ 140737488355328) (less : Int) (hl : -9223372036854775808 ≤ less ∧ less ≤ 9223372036854775807) (w : World) :
    Calls Try.prog 9 #[.string x, .int .i64 less] w fun e w' => e = .returned (.bool true) ∧ Below w.heap.size w w' := by
  obtain ⟨bx, hbx⟩ : ∃ b, isTree x = b := ⟨_, rfl⟩
  have HX := Lib.hid hbx
  have kX := fun w => refValid_any x (by omega : x.size ≤ 281474976710656) w
  rw [hbx] at kX
  clear hbx
  cases bx with
  | false =>
    go_enter Try.func9, Try.ntmps9
    go_wp2_with fail
    refine (kX _).mono ?_
    rintro e w1 ⟨rfl, rfl⟩
    go_wp2_with fail
    refine (awake03 _).mono ?_
    rintro e w1 ⟨rfl, hb1⟩
    go_wp2
    go_ret
    exact ⟨rfl, hb1⟩
  | true =>
    obtain ⟨t, htx, ht⟩ := isTree_get HX.out
    obtain ⟨m, hm1, hm2, hm3, hm4⟩ := dbl_least t ht
    obtain ⟨dz, hdz⟩ : ∃ dz : Nat → Nat, ∀ j, dz j = (dblT t j).size := ⟨_, fun _ => rfl⟩
    have HSUC := Lib.hid (show ∀ j, dz (j + 1) = 2 * dz j + 1 from fun j => by rw [hdz, hdz]; simp only [dblT, Tr.size]; omega)
    have hx0 : x.size = dz 0 := by rw [htx, TS_size, hdz]; rfl
    have hxI : (x.size : Int) = (dz 0 : Int) := by omega
    have HZ0 := Lib.hid hxI
    have HS := Lib.hid htx.symm
    have hbig : 2000000 < dz m := by rw [hdz]; exact hm3
    have hsm : ∀ j, j < m → dz j ≤ 2000000 := fun j hj => by rw [hdz]; exact hm4 j hj
    have HSM := Lib.hid hsm
    have HBIG := Lib.hid hbig
    have HM3 := Lib.hid hm3
    have HM4 := Lib.hid hm4
    have HDZ := Lib.hid hdz
    clear htx hx0 hxI hbig hsm hm3 hm4 hdz
    obtain ⟨st, hst⟩ : ∃ st : Nat → Nat, ∀ j, st j = 2 * j := ⟨_, fun _ => rfl⟩
    have HST := Lib.hid hst
    have hst0 : (st 0 : Int) = 0 := by rw [hst]; rfl
    have HST0 := Lib.hid hst0
    clear hst hst0
    go_enter Try.func9, Try.ntmps9
    go_wp2_with fail
    refine (kX _).mono ?_
    rintro e w1 ⟨rfl, rfl⟩
    clear kX
    go_wp2
    go_loopg [5, 6] m (fun gg a b wr => ∃ j : Nat, j ≤ m ∧ gg = m - j ∧ a = .int .i64 (dz j : Nat) ∧ b = .int .i64 (st j : Nat) ∧ w = wr)
    case atStart => exact ⟨0, by omega, rfl, congrArg (Value.int IntKind.i64) HZ0.out, congrArg (Value.int IntKind.i64) HST0.out.symm, rfl⟩
    case round =>
      obtain ⟨j, hj, hgg, rfl, rfl, rfl⟩ := hrel
      have HGG := Lib.hid hgg
      have hs1 := HST.out j
      have hsb : (st j : Int) ≤ 40 := by omega
      clear hgg hs1
      by_cases hlt : j < m
      · have hle : (dz j : Int) ≤ 2000000 := by have := HSM.out j hlt; omega
        go_wp2
        go_roundg (m - (j + 1))
        case measure => rw [HGG.out]; omega
        case rel => exact ⟨j + 1, by omega, rfl, congrArg (Value.int IntKind.i64) (by have := HSUC.out j; omega), congrArg (Value.int IntKind.i64) (by have := HST.out j; have := HST.out (j + 1); omega), rfl⟩
      · obtain rfl : j = m := by omega
        have hle : 2000000 < (dz j : Int) := by have := HBIG.out; omega
        have hS2 : st j = 2 * j := HST.out j
        have HR1 := Lib.hid (show (goF dblP (st j - 1) 0 (startS t)).run = (⟨#[]⟩, 0, 3) by rw [hS2, dbl_big_run t j hm1 HM3.out HM4.out]; rfl)
        have HR2 := Lib.hid (show (goF dblP (st j - 2) 0 (startS t)).run = (⟨#[]⟩, 0, 7) by rw [hS2, show 2 * j - 2 = 2 * (j - 1) by omega, dbl_even t (j - 1) (HM4.out _ (by omega))]; rfl)
        obtain ⟨S, hS⟩ : ∃ S, st j = S := ⟨_, rfl⟩
        rw [hS] at hS2 HR1 HR2 hsb ⊢
        have hSI1 : (2 : Int) ≤ S := by omega
        have hSI2 : (S : Int) ≤ 40 := by omega
        obtain ⟨d, hd, hd1, hd2, k, hk, hdk⟩ := rem_int less ((S : Int) - 1) (by omega)
        rw [show d + ((S : Int) - 1) = d + S - 1 by omega] at hdk
        have hzne : ((S : Int) - 1 == 0) = false := by rw [beq_eq_false_iff_ne]; omega
        obtain ⟨K, hK⟩ : ∃ K : Nat, (S : Int) - 2 - k = K := ⟨((S : Int) - 2 - k).toNat, by omega⟩
        obtain ⟨q, hq⟩ : ∃ q, (K + 1) / 2 = q := ⟨_, rfl⟩
        have hqm : q ≤ j - 1 := by omega
        have HLE := Lib.hid (show ∀ i, i ≤ q → dz i ≤ 2000000 from fun i hi => HSM.out i (by omega))
        have hat := dbl_at t K (by rw [hq]; exact HM4.out _ (by omega))
        rw [hq] at hat
        obtain ⟨p, hp⟩ := hat
        have HR3 := Lib.hid (show (goF dblP K 0 (startS t)).after = ((p : Int), (dblT t q :: List.replicate 31 .nil).map TS, K, 0) by rw [hp]; rfl)
        have hq1 : ((K : Int) + 1) / 2 = (q : Int) := by omega
        have hq2 : ((K : Int) + 1).tdiv 2 = (q : Int) := by rw [Int.tdiv_eq_ediv_of_nonneg (by omega)]; omega
        have hKI : (K : Int) ≤ 40 := by omega
        have hqI : (q : Int) ≤ 40 := by omega
        have hS1 : S = 2 * j := hS2
        have HJ := Lib.hid hS1
        clear hS hp hq hS2 hS1 hj HSM HBIG HM3 HM4 HST HST0 HGG hqm
        go_wp2_with fail
        refine (doubles_any _).mono ?_
        rintro e w1 ⟨rfl, hd1, hb1⟩
        have ch1 := hb1
        clear hb1
        have hd1 := Lib.hid hd1
        go_wp2_with fail
        refine (runOk_at (S - 1) (S - 1) _ _ _ HR1.out dbl_valid ht HS.out (by omega) (by omega) hd1.out).mono ?_
        rintro e w2 ⟨rfl, hb2⟩
        have hd1 := Lib.hid ((hd1.out.below hb2).mono hb2.size)
        have ch2 := (ch1).trans (hb2.mono (ch1).size)
        clear ch1
        clear hb2
        go_wp2_with fail
        refine (doubles_any _).mono ?_
        rintro e w3 ⟨rfl, hd2, hb3⟩
        have hd1 := Lib.hid ((hd1.out.below hb3).mono hb3.size)
        have ch3 := (ch2).trans (hb3.mono (ch2).size)
        clear ch2
        clear hb3
        have hd2 := Lib.hid hd2
        go_wp2_with fail
        refine (runOk_at (S - 2) (S - 2) _ _ _ HR2.out dbl_valid ht HS.out (by omega) (by omega) hd2.out).mono ?_
        rintro e w4 ⟨rfl, hb4⟩
        have hd1 := Lib.hid ((hd1.out.below hb4).mono hb4.size)
        have hd2 := Lib.hid ((hd2.out.below hb4).mono hb4.size)
        have ch4 := (ch3).trans (hb4.mono (ch3).size)
        clear ch3
        clear hb4
        go_wp2_with fail
        refine (doubles_any _).mono ?_
        rintro e w5 ⟨rfl, hd3, hb5⟩
        have hd1 := Lib.hid ((hd1.out.below hb5).mono hb5.size)
        have hd2 := Lib.hid ((hd2.out.below hb5).mono hb5.size)
        have ch5 := (ch4).trans (hb5.mono (ch4).size)
        clear ch4
        clear hb5
        have hd3 := Lib.hid hd3
        go_wp2_with fail
        refine (afterOk_at K _ _ 32 (by simp) _ _ HR3.out dbl_valid ht HS.out (by omega) hd3.out).mono ?_
        rintro e w6 ⟨ua, uc, rfl, hrow, hb6⟩
        have hd1 := Lib.hid ((hd1.out.below hb6).mono hb6.size)
        have hd2 := Lib.hid ((hd2.out.below hb6).mono hb6.size)
        have hd3 := Lib.hid ((hd3.out.below hb6).mono hb6.size)
        have ch6 := (ch5).trans (hb6.mono (ch5).size)
        clear ch5
        clear hb6
        have hrow := Lib.hid hrow
        obtain ⟨W, hW⟩ : ∃ W, w6.alloc (.cells #[.int .i64 p, .slice ua 32 uc] 53) = W := ⟨_, rfl⟩
        have hq : Below w6.heap.size w6 W := by rw [← hW]; exact (Below.refl _ _).alloc (Nat.le_refl _) _
        have hbox : W.heap[w6.heap.size]? = some (.cells #[.int .i64 p, .slice ua 32 uc] 53 (0, 0)) := by rw [← hW]; exact heap_alloc_new w6 _
        have hrw := (hrow.out.below hq).mono hq.size
        have Hch6 := Lib.hid ((ch6).trans (hq.mono (ch6).size))
        obtain ⟨rg, off, hua, hrg, hc0⟩ := hrw.get (k := 0) (s := TS (dblT t q)) rfl
        have d1 := (block_cells hbox).1 1
        simp only [List.getElem?_toArray, List.getElem?_cons_zero, List.getElem?_cons_succ] at d1
        subst hua
        have hb6OX := Lib.hid hbox
        have HRW := Lib.hid hrw
        clear hq hrow hrw hbox
        go_wp2
        go_loopg [17, 18] q (fun gg a b wr => ∃ i : Nat, i ≤ q ∧ gg = q - i ∧ a = .int .i64 (dz i : Nat) ∧ b = .int .i64 i ∧ W = wr)
        case atStart => exact ⟨0, by omega, rfl, by rw [HZ0.out], rfl, rfl⟩
        case round =>
          obtain ⟨i, hi, hgg, rfl, rfl, rfl⟩ := hrel
          have HGG := Lib.hid hgg
          have hdi := HDZ.out i
          have hbi : (dz i : Int) ≤ 2000000 := by have := HLE.out i (by omega); omega
          have HDI := Lib.hid hdi
          clear hgg hdi
          by_cases hlt : i < q
          · have hltI : (i : Int) < (q : Int) := by omega
            go_wp2
            go_roundg (q - (i + 1))
            case measure => rw [HGG.out]; omega
            case rel => exact ⟨i + 1, by omega, rfl, congrArg (Value.int IntKind.i64) (by have := HSUC.out i; omega), by go_num, rfl⟩
          · obtain rfl : i = q := by omega
            have hlen : (TS (dblT t i)).size = dz i := by rw [TS_size, HDZ.out]
            have cT := tvalid_at (TS (dblT t i)) (by rw [hlen]; have := HLE.out i (Nat.le_refl _); omega) true (isTree_TS _ (by rw [← HDZ.out]; have := HLE.out i (Nat.le_refl _); omega))
            obtain ⟨Y, hY⟩ : ∃ Y, TS (dblT t i) = Y := ⟨_, rfl⟩
            rw [hY] at hc0 cT hlen
            rw [Nat.add_zero] at hc0
            clear hY
            go_wp2_with fail
            refine (cT _).mono ?_
            rintro e wX ⟨rfl, hb7⟩
            clear cT
            go_wp2_with fail
            refine (awake03 _).mono ?_
            rintro e wY ⟨rfl, hb8⟩
            have hb9 := hb7.trans (hb8.mono hb7.size)
            clear hb7 hb8
            go_wp2
            go_ret
            exact ⟨rfl, Hch6.out.trans (hb9.mono Hch6.out.size)⟩


end Go.Proofs.Ytieocihlkpipmaa

namespace Go.Proofs.Ytieocihlkpipmaa
open Go.RowKit

theorem twin_at {w : World} {v : Value} {l : List Ins} (hl : InsRow w w.heap.size v l) : Calls Try.prog 20 #[v] w fun e w' => ∃ v', e = .returned v' ∧ InsRow w' w'.heap.size v' l ∧ Below w.heap.size w w' := twin_any v l w hl
/-- The state after j steps, in its box. -/
structure PartsP (w : World) (l : List Ins) (s0 : St) (j : Nat) (W : World) : Prop where
  box : ∃ a c, W.heap[w.heap.size]? = some (.cells #[.int .i64 (stN l s0 j).pos, .slice a 32 c] 53 (0, 0)) ∧ StrRow W W.heap.size (.slice a 32 c) ((stN l s0 j).regs.map TS)
  reach : Reach l s0 j
  b : Below w.heap.size w W
theorem PartsP.zero (w : World) (l : List Ins) (s0 : St) (h0 : s0.pos = 0) {a : Option Addr} {c : Nat} (h : StrRow w w.heap.size (.slice a 32 c) (s0.regs.map TS)) : PartsP w l s0 0 (w.alloc (.cells #[.int .i64 0, .slice a 32 c] 53)) :=
  ⟨⟨a, c, by rw [show ((0 : Int)) = (((stN l s0 0).pos : Nat) : Int) by show _ = ((s0.pos : Nat) : Int); rw [h0]; rfl]; exact box2_new _ _ _ _, (h.below (alloc_below _ _)).mono (alloc_below _ _).size⟩, Reach.zero l s0, alloc_below _ _⟩
theorem PartsP.next {w : World} {l : List Ins} {s0 s' : St} {j : Nat} {A B : World} {a : Option Addr} {c : Nat} (h : PartsP w l s0 j A) (hp : (stN l s0 j).pos ≠ l.length) (hs : stepP l (stN l s0 j) = some s') (hb : Below A.heap.size A B) (hr : StrRow B B.heap.size (.slice a 32 c) (s'.regs.map TS)) :
    PartsP w l s0 (j + 1) ((B.setCell ⟨w.heap.size, 0, none⟩ (.int .i64 s'.pos)).setCell ⟨w.heap.size, 1, none⟩ (.slice a 32 c)) := by
  obtain ⟨⟨a0, c0, h1, h2⟩, h3, h4⟩ := h
  have h5 := BoxFin.set (W0 := w) (.int .i64 s'.pos) (.slice a 32 c) (blk_lift hb h1) (by intro s h; cases h) (by intro s h; cases h) (Nat.le_refl _)
  refine ⟨⟨a, c, ?_, ?_⟩, h3.succ hp hs, h5.below (h4.trans (hb.mono h4.size))⟩
  · rw [stN_succ hs]; exact h5.blk
  · rw [stN_succ hs]; exact h5.str hr
theorem good_strs {n : Nat} {s : St} (h : Good n s) : (s.regs.map TS).map toTr = s.regs := by
  rw [List.map_map]
  conv => rhs; rw [← List.map_id s.regs]
  exact List.map_congr_left fun t ht => toTr_TS t (h.2.2 t ht)
theorem good_fits {l : List Ins} {s : St} (h : Good l.length s) : fitsB s.pos l.length (s.regs.map TS) = true := by
  unfold fitsB
  simp only [Bool.and_eq_true, decide_eq_true_eq, List.length_map]
  refine ⟨⟨⟨by omega, by have := h.1; omega⟩, h.2.1⟩, List.all_eq_true.2 fun x hx => ?_⟩
  obtain ⟨t, ht, rfl⟩ := List.mem_map.1 hx
  exact isTree_TS t (h.2.2 t ht)
theorem partStep_ok {w : World} {v : Value} {l : List Ins} {s s' : St} {u : Value} (hv : validB l = true) (hg : Good l.length s) (he : s.pos ≠ l.length) (hs : stepP l s = some s') (hl : InsRow w w.heap.size v l) (hL : StrRow w w.heap.size u (s.regs.map TS)) :
    Calls Try.prog 47 #[v, .agg #[.int .i64 s.pos, u]] w fun e w' => ∃ a c, e = .returned (.tuple #[.agg #[.int .i64 s'.pos, .slice a 32 c], .int .i64 0]) ∧ StrRow w' w'.heap.size (.slice a 32 c) (s'.regs.map TS) ∧ Below w.heap.size w w' :=
  step_ok_at hv (good_fits hg) (by omega) (hg.step (validB_all hv) hs).2.1 (by rw [good_strs hg]; exact hs) hl hL
theorem partStep_big {w : World} {v : Value} {l : List Ins} {s : St} {u : Value} (hv : validB l = true) (hg : Good l.length s) (he : s.pos ≠ l.length) (hs : stepP l s = none) (hl : InsRow w w.heap.size v l) (hL : StrRow w w.heap.size u (s.regs.map TS)) :
    Calls Try.prog 47 #[v, .agg #[.int .i64 s.pos, u]] w (StateBad w 3) :=
  step_big_at hv (good_fits hg) (by omega) (by rw [good_strs hg]; exact hs) hl hL

set_option maxRecDepth 100000 in
set_option maxHeartbeats 8000000 in
theorem law_RunParts_i {w : World} (ao : Option Addr) (N cap : Nat) (l : List Ins) (HN : Hid (l.length = N)) (hl : InsRow w w.heap.size (.slice ao N cap) l) (s : ByteArray) (k : Int) (hv : validB l = false) :
    Calls Try.prog 17 #[.slice ao N cap, .string s, .int .i64 k] w fun e w' => e = .returned (.bool true) ∧ Below w.heap.size w w' := by
  have hl := Lib.hid hl
  go_enter Try.func17, Try.ntmps17
  go_wp2_with fail
  refine (cvalid_at false hv hl.out).mono ?_
  rintro e w1 ⟨rfl, hb1⟩
  have hl := Lib.hid ((hl.out.below hb1).mono hb1.size)
  have ch1 := hb1
  clear hb1
  go_wp2_with fail
  refine (awake03 _).mono ?_
  rintro e w2 ⟨rfl, hb2⟩
  have hl := Lib.hid ((hl.out.below hb2).mono hb2.size)
  have ch2 := (ch1).trans (hb2.mono (ch1).size)
  clear ch1
  clear hb2
  go_wp2
  go_ret
  exact ⟨rfl, ch2⟩

set_option maxRecDepth 100000 in
set_option maxHeartbeats 8000000 in
theorem law_RunParts_y {w : World} (ao : Option Addr) (N cap : Nat) (l : List Ins) (HN : Hid (l.length = N)) (hN4 : N ≤ 4000) (hl : InsRow w w.heap.size (.slice ao N cap) l) (s : ByteArray) (hs : s.size ≤ 140737488355328) (k : Int) (hv : validB l = true) (hx : isTree s = false) :
    Calls Try.prog 17 #[.slice ao N cap, .string s, .int .i64 k] w fun e w' => e = .returned (.bool true) ∧ Below w.heap.size w w' := by
  have hl := Lib.hid hl
  go_enter Try.func17, Try.ntmps17
  go_wp2_with fail
  refine (cvalid_at true hv hl.out).mono ?_
  rintro e w1 ⟨rfl, hb1⟩
  have hl := Lib.hid ((hl.out.below hb1).mono hb1.size)
  have ch1 := hb1
  clear hb1
  go_wp2_with fail
  refine (tvalid_at _ hs false hx _).mono ?_
  rintro e w2 ⟨rfl, hb2⟩
  have hl := Lib.hid ((hl.out.below hb2).mono hb2.size)
  have ch2 := (ch1).trans (hb2.mono (ch1).size)
  clear ch1
  clear hb2
  go_wp2_with fail
  refine (awake03 _).mono ?_
  rintro e w3 ⟨rfl, hb3⟩
  have hl := Lib.hid ((hl.out.below hb3).mono hb3.size)
  have ch3 := (ch2).trans (hb3.mono (ch2).size)
  clear ch2
  clear hb3
  go_wp2
  go_ret
  exact ⟨rfl, ch3⟩

set_option maxRecDepth 100000 in
set_option maxHeartbeats 8000000 in
theorem law_RunParts_lo {w : World} (ao : Option Addr) (N cap : Nat) (l : List Ins) (HN : Hid (l.length = N)) (hN4 : N ≤ 4000) (hl : InsRow w w.heap.size (.slice ao N cap) l) (s : ByteArray) (hs : s.size ≤ 140737488355328) (k : Int) (hv : validB l = true) (hx : isTree s = true) (hk : k < 0) :
    Calls Try.prog 17 #[.slice ao N cap, .string s, .int .i64 k] w fun e w' => e = .returned (.bool true) ∧ Below w.heap.size w w' := by
  have hl := Lib.hid hl
  go_enter Try.func17, Try.ntmps17
  go_wp2_with fail
  refine (cvalid_at true hv hl.out).mono ?_
  rintro e w1 ⟨rfl, hb1⟩
  have hl := Lib.hid ((hl.out.below hb1).mono hb1.size)
  have ch1 := hb1
  clear hb1
  go_wp2_with fail
  refine (tvalid_at _ hs true hx _).mono ?_
  rintro e w2 ⟨rfl, hb2⟩
  have hl := Lib.hid ((hl.out.below hb2).mono hb2.size)
  have ch2 := (ch1).trans (hb2.mono (ch1).size)
  clear ch1
  clear hb2
  go_wp2_with fail
  refine (awake03 _).mono ?_
  rintro e w3 ⟨rfl, hb3⟩
  have hl := Lib.hid ((hl.out.below hb3).mono hb3.size)
  have ch3 := (ch2).trans (hb3.mono (ch2).size)
  clear ch2
  clear hb3
  go_wp2
  go_ret
  exact ⟨rfl, ch3⟩

set_option maxRecDepth 100000 in
set_option maxHeartbeats 8000000 in
theorem law_RunParts_hi {w : World} (ao : Option Addr) (N cap : Nat) (l : List Ins) (HN : Hid (l.length = N)) (hN4 : N ≤ 4000) (hl : InsRow w w.heap.size (.slice ao N cap) l) (s : ByteArray) (hs : s.size ≤ 140737488355328) (k : Int) (hv : validB l = true) (hx : isTree s = true) (hk0 : 0 ≤ k) (hk : 300 < k) :
    Calls Try.prog 17 #[.slice ao N cap, .string s, .int .i64 k] w fun e w' => e = .returned (.bool true) ∧ Below w.heap.size w w' := by
  have hl := Lib.hid hl
  go_enter Try.func17, Try.ntmps17
  go_wp2_with fail
  refine (cvalid_at true hv hl.out).mono ?_
  rintro e w1 ⟨rfl, hb1⟩
  have hl := Lib.hid ((hl.out.below hb1).mono hb1.size)
  have ch1 := hb1
  clear hb1
  go_wp2_with fail
  refine (tvalid_at _ hs true hx _).mono ?_
  rintro e w2 ⟨rfl, hb2⟩
  have hl := Lib.hid ((hl.out.below hb2).mono hb2.size)
  have ch2 := (ch1).trans (hb2.mono (ch1).size)
  clear ch1
  clear hb2
  go_wp2_with fail
  refine (awake03 _).mono ?_
  rintro e w3 ⟨rfl, hb3⟩
  have hl := Lib.hid ((hl.out.below hb3).mono hb3.size)
  have ch3 := (ch2).trans (hb3.mono (ch2).size)
  clear ch2
  clear hb3
  go_wp2
  go_ret
  exact ⟨rfl, ch3⟩

set_option maxRecDepth 100000 in
set_option maxHeartbeats 8000000 in
theorem law_RunParts_ok {w : World} (ao : Option Addr) (N cap : Nat) (l : List Ins) (HN : Hid (l.length = N)) (hN4 : N ≤ 4000) (hl : InsRow w w.heap.size (.slice ao N cap) l) (t : Tr) (ht : t.size ≤ 2000000) (hs : (TS t).size ≤ 140737488355328) (hx : isTree (TS t) = true) (K : Nat) (hK : K ≤ 300) (hv : validB l = true) :
    Calls Try.prog 17 #[.slice ao N cap, .string (TS t), .int .i64 K] w fun e w' => e = .returned (.bool true) ∧ Below w.heap.size w w' := by
  have hl := Lib.hid hl
  go_enter Try.func17, Try.ntmps17
  go_wp2_with fail
  refine (cvalid_at true hv hl.out).mono ?_
  rintro e w1 ⟨rfl, hb1⟩
  have hl := Lib.hid ((hl.out.below hb1).mono hb1.size)
  have ch1 := hb1
  clear hb1
  go_wp2_with fail
  refine (tvalid_at _ hs true hx _).mono ?_
  rintro e w2 ⟨rfl, hb2⟩
  have hl := Lib.hid ((hl.out.below hb2).mono hb2.size)
  have ch2 := (ch1).trans (hb2.mono (ch1).size)
  clear ch1
  clear hb2
  go_wp2_with fail
  refine (twin_at hl.out).mono ?_
  rintro e w3 ⟨v1, rfl, hv1, hb3⟩
  have hl := Lib.hid ((hl.out.below hb3).mono hb3.size)
  have ch3 := (ch2).trans (hb3.mono (ch2).size)
  clear ch2
  clear hb3
  have hv1 := Lib.hid hv1
  go_wp2_with fail
  refine (first_at ht rfl hv hv1.out).mono ?_
  rintro e w4 ⟨a1, c1, rfl, hA1, hb4⟩
  have hl := Lib.hid ((hl.out.below hb4).mono hb4.size)
  have hv1 := Lib.hid ((hv1.out.below hb4).mono hb4.size)
  have ch4 := (ch3).trans (hb4.mono (ch3).size)
  clear ch3
  clear hb4
  have hA1 := Lib.hid hA1
  have HS := Lib.hid (PartsP.zero w4 l (startS t) rfl hA1.out)
  clear hv1 hA1
  go_wp2
  go_loopg [9, 10] K (fun gg nn ff w20 => ∃ j : Nat, j ≤ K ∧ gg = K - j ∧ nn = .int .i64 j ∧ ff = .int .i64 0 ∧ Hid (PartsP w4 l (startS t) j w20))
  case atStart => exact ⟨0, by omega, rfl, rfl, rfl, HS.out⟩
  case round =>
    obtain ⟨j, hj, hgg, rfl, rfl, hP⟩ := hrel
    rename World => w20
    have HGG := Lib.hid hgg
    have hb20 := hP.out.b
    have hl := Lib.hid ((hl.out.below hb20).mono hb20.size)
    have ch20 := ch4.trans (hb20.mono ch4.size)
    have HG := Lib.hid (hP.out.reach.good (validB_all hv) (Good.start l.length t ht))
    obtain ⟨a, c, bx, rw⟩ := hP.out.box
    obtain ⟨sj, hsj⟩ : ∃ s, stN l (startS t) j = s := ⟨_, rfl⟩
    have HSJ := Lib.hid hsj
    rw [hsj] at bx rw HG
    have bx := Lib.hid bx
    have rw := Lib.hid rw
    have hpN : sj.pos ≤ N := by have h1 := HG.out.1; have h2 := HN.out; omega
    have hp0 : (0 : Int) ≤ (sj.pos : Int) := Int.natCast_nonneg _
    have hj0 : (0 : Int) ≤ (j : Int) := Int.natCast_nonneg _
    clear hgg HS hb20 hsj
    by_cases hlt : j < K ∧ sj.pos ≠ N
    · obtain ⟨hlt1, hne⟩ := hlt
      have hlt1' : (j : Int) < (K : Int) := by omega
      have hpl : (sj.pos : Int) < (N : Int) := by omega
      have HNE := Lib.hid (show sj.pos ≠ l.length by rw [HN.out]; exact hne)
      have e1 := box4 bx.out
      obtain ⟨e1a, e1b, e1c, e1d⟩ := e1
      clear hne
      have KEEP := Lib.hid (show ∀ w', Below w20.heap.size w20 w' → w'.cell? ⟨w4.heap.size, 0, none⟩ = some (.int .i64 sj.pos) ∧ w'.cell? ⟨w4.heap.size, 1, none⟩ = some (.slice a 32 c) ∧ w'.frozen? ⟨w4.heap.size, 0, none⟩ = false ∧ w'.frozen? ⟨w4.heap.size, 1, none⟩ = false from fun w' hb => box4 (blk_lift hb bx.out))
      have kT : Hid (∀ w', Below w20.heap.size w20 w' → Calls Try.prog 20 #[.slice ao N cap] w' fun e w'' => ∃ v', e = .returned v' ∧ Hid (InsRow w'' w''.heap.size v' l) ∧ Below w20.heap.size w20 w'') := fun w' hb => (twin_at ((hl.out.below hb).mono hb.size)).mono fun e w'' ⟨v', h1, h2, h3⟩ => ⟨v', h1, Lib.hid h2, hb.trans (h3.mono hb.size)⟩
      cases hst : stepP l sj with
      | some s' =>
        have kS : Hid (∀ w' v', InsRow w' w'.heap.size v' l → Below w20.heap.size w20 w' → Calls Try.prog 47 #[v', .agg #[.int .i64 sj.pos, .slice a 32 c]] w' fun e w'' => ∃ a c, e = .returned (.tuple #[.agg #[.int .i64 s'.pos, .slice a 32 c], .int .i64 0]) ∧ Hid (StrRow w'' w''.heap.size (.slice a 32 c) (s'.regs.map TS)) ∧ Below w20.heap.size w20 w'') := fun w' v' hi hb => (partStep_ok hv HG.out HNE.out hst hi ((rw.out.below hb).mono hb.size)).mono fun e w'' ⟨a, c, h1, h2, h3⟩ => ⟨a, c, h1, Lib.hid h2, hb.trans (h3.mono hb.size)⟩
        have HST := Lib.hid hst
        clear hst
        go_wp2
        go_region_law (first
        | (go_simp; go_at_call 20; (with_reducible refine (kT.out _ (by first | exact Below.refl _ _ | exact (Below.refl _ _).drew)).mono ?_); rintro e wT ⟨v', rfl, hi, hzT⟩; obtain ⟨f1a, f1b, f1c, f1d⟩ := KEEP.out _ hzT)
        | (go_simp; go_at_call 47; (with_reducible refine (kS.out _ _ hi.out hzT).mono ?_); rintro e wS ⟨a2, c2, rfl, hA2, hzS⟩; obtain ⟨f1a, f1b, f1c, f1d⟩ := KEEP.out _ hzS))
        all_goals (
          have hnew : Hid (PartsP w4 l (startS t) (j + 1) ((wS.setCell ⟨w4.heap.size, 0, none⟩ (.int .i64 s'.pos)).setCell ⟨w4.heap.size, 1, none⟩ (.slice a2 32 c2))) := hP.out.next (by rw [HSJ.out]; exact HNE.out) (by rw [HSJ.out]; exact HST.out) hzS hA2.out
          clear KEEP kT kS e1a e1b e1c e1d
          go_wp2
          go_roundg (K - (j + 1))
          case measure => rw [HGG.out]; omega
          case rel => exact ⟨j + 1, by omega, rfl, by go_num, rfl, (by first | exact hnew | exact hnew.out.drew)⟩)
      | none =>
        have kS : Hid (∀ w' v', InsRow w' w'.heap.size v' l → Below w20.heap.size w20 w' → Calls Try.prog 47 #[v', .agg #[.int .i64 sj.pos, .slice a 32 c]] w' fun e w'' => e = .returned (.tuple #[.agg #[.int .i64 0, .slice none 0 0], .int .i64 3]) ∧ Below w20.heap.size w20 w'') := fun w' v' hi hb => (partStep_big hv HG.out HNE.out hst hi ((rw.out.below hb).mono hb.size)).mono fun e w'' ⟨h1, h3⟩ => ⟨h1, hb.trans (h3.mono hb.size)⟩
        have KBIG := Lib.hid (show goF l K 0 (startS t) = .big by
          rw [hP.out.reach.goF K hj, show K - j = (K - j - 1) + 1 by omega]
          exact goF_big (by rw [HSJ.out]; exact HNE.out) (by rw [HSJ.out]; exact hst))
        clear hst
        go_wp2
        go_region_law (first
        | (go_simp; go_at_call 20; (with_reducible refine (kT.out _ (by first | exact Below.refl _ _ | exact (Below.refl _ _).drew)).mono ?_); rintro e wT ⟨v', rfl, hi, hzT⟩; obtain ⟨f1a, f1b, f1c, f1d⟩ := KEEP.out _ hzT)
        | (go_simp; go_at_call 47; (with_reducible refine (kS.out _ _ hi.out hzT).mono ?_); rintro e wS ⟨rfl, hzS⟩; obtain ⟨f1a, f1b, f1c, f1d⟩ := KEEP.out _ hzS))
        all_goals (
          obtain ⟨w21, hW⟩ : ∃ B, (wS.setCell ⟨w4.heap.size, 0, none⟩ (.int .i64 0)).setCell ⟨w4.heap.size, 1, none⟩ (.slice none 0 0) = B := ⟨_, rfl⟩
          rw [hW]
          have BF := BoxFin.set (W0 := w4) (.int .i64 0) (.slice none 0 0) (blk_lift hzS bx.out) (by intro s h; cases h) (by intro s h; cases h) (Nat.le_refl _)
          rw [hW] at BF
          have hl := Lib.hid (BF.ins ((hl.out.below hzS).mono hzS.size))
          have hW1 := BF.below (hP.out.b.trans (hzS.mono hP.out.b.size))
          have ch21 := ch4.trans (hW1.mono ch4.size)
          clear KEEP kT kS e1a e1b e1c e1d BF hW hW1
          go_wp2_with fail
          refine (twin_at hl.out).mono ?_
          rintro e w22 ⟨v2, rfl, hv2, hb22⟩
          have hl := Lib.hid ((hl.out.below hb22).mono hb22.size)
          have ch22 := (ch21).trans (hb22.mono (ch21).size)
          clear ch21
          clear hb22
          have hv2 := Lib.hid hv2
          go_wp2_with fail
          refine (afterOk_at K 0 [] 0 rfl 0 3 (by rw [KBIG.out]; rfl) hv ht rfl (by omega) hv2.out).mono ?_
          rintro e w23 ⟨ua, uc, rfl, hU, hb23⟩
          have hl := Lib.hid ((hl.out.below hb23).mono hb23.size)
          have hv2 := Lib.hid ((hv2.out.below hb23).mono hb23.size)
          have ch23 := (ch22).trans (hb23.mono (ch22).size)
          clear ch22
          clear hb23
          go_wp2_with fail
          obtain ⟨w24, hW⟩ : ∃ B, w23.alloc (.cells #[.int .i64 0, .slice ua 0 uc] 53) = B := ⟨_, rfl⟩
          rw [hW]
          have hbB : Below w23.heap.size w23 w24 := by rw [← hW]; exact alloc_below _ _
          have bU := Lib.hid (show w24.heap[w23.heap.size]? = some (.cells #[.int .i64 0, .slice ua 0 uc] 53 (0, 0)) by rw [← hW]; exact box2_new _ _ _ _)
          clear hW
          have hl := Lib.hid ((hl.out.below hbB).mono hbB.size)
          have hv2 := Lib.hid ((hv2.out.below hbB).mono hbB.size)
          have ch24 := (ch23).trans (hbB.mono (ch23).size)
          clear ch23
          clear hbB
          refine (twin_at hl.out).mono ?_
          rintro e w25 ⟨v3, rfl, hv3, hb25⟩
          have hl := Lib.hid ((hl.out.below hb25).mono hb25.size)
          have hv2 := Lib.hid ((hv2.out.below hb25).mono hb25.size)
          have bU := Lib.hid (blk_lift hb25 bU.out)
          have ch25 := (ch24).trans (hb25.mono (ch24).size)
          clear ch24
          clear hb25
          have hv3 := Lib.hid hv3
          go_wp2_with fail
          refine (runOk_at K K _ 0 3 (by rw [KBIG.out]; rfl) hv ht rfl rfl (by omega) hv3.out).mono ?_
          rintro e w26 ⟨rfl, hb26⟩
          have hl := Lib.hid ((hl.out.below hb26).mono hb26.size)
          have hv2 := Lib.hid ((hv2.out.below hb26).mono hb26.size)
          have bU := Lib.hid (blk_lift hb26 bU.out)
          have hv3 := Lib.hid ((hv3.out.below hb26).mono hb26.size)
          have ch26 := (ch25).trans (hb26.mono (ch25).size)
          clear ch25
          clear hb26
          go_wp2_with fail
          refine (awake03 _).mono ?_
          rintro e w27 ⟨rfl, hb27⟩
          have hl := Lib.hid ((hl.out.below hb27).mono hb27.size)
          have hv2 := Lib.hid ((hv2.out.below hb27).mono hb27.size)
          have bU := Lib.hid (blk_lift hb27 bU.out)
          have hv3 := Lib.hid ((hv3.out.below hb27).mono hb27.size)
          have ch27 := (ch26).trans (hb27.mono (ch26).size)
          clear ch26
          clear hb27
          go_wp2
          go_ret
          exact ⟨rfl, ch27⟩)
    · have hor : (K ≤ j ∧ j = K) ∨ (j < K ∧ sj.pos = N) := by omega
      have HRES := Lib.hid (show ∃ er : Int, ∃ y : ByteArray, ∃ m : Nat, (goF l K 0 (startS t)).after = ((sj.pos : Int), sj.regs.map TS, j, (0 : Int)) ∧ (goF l K 0 (startS t)).run = (y, m, er) ∧ ((sj.pos ≠ N ∧ er = 7) ∨ (sj.pos = N ∧ er = 0 ∧ m = j ∧ (sj.regs.map TS)[0]? = some y)) from by
        rw [hP.out.reach.goF K hj, HSJ.out]
        by_cases hpe : sj.pos = l.length
        · rw [goF_done hpe]
          obtain ⟨t0, h0⟩ : ∃ t0, sj.regs[0]? = some t0 := ⟨_, List.getElem?_eq_getElem (by rw [HG.out.2.1]; omega)⟩
          exact ⟨0, _, j, rfl, rfl, .inr ⟨by rw [hpe, HN.out], rfl, rfl, by rw [List.getElem?_map, h0]; unfold getR; simp [h0]⟩⟩
        · have hjK : K - j = 0 := by have := HN.out; omega
          rw [hjK, goF_zero hpe]
          exact ⟨7, _, 0, rfl, rfl, .inl ⟨by rw [← HN.out]; exact hpe, rfl⟩⟩)
      obtain ⟨er, y, m, hra, hrr, hcase⟩ := HRES.out
      have HRA := Lib.hid hra
      have HRR := Lib.hid hrr
      have HCS := Lib.hid hcase
      clear hra hrr hcase HRES
      have h32 : Hid ((sj.regs.map TS).length = 32) := Lib.hid (by rw [List.length_map]; exact HG.out.2.1)
      have e1 := box2 bx.out
      obtain ⟨e1a, e1b⟩ := e1
      clear ch4
      rcases HCS.out with ⟨hc1, hc2⟩ | ⟨hc1, hc2, hc3, hc4⟩
      · have hKj : (K : Int) ≤ (j : Int) := by omega
        have HC1 := Lib.hid hc1
        clear HCS hor hc1
        go_wp2_with fail
        refine (twin_at hl.out).mono ?_
        rintro e w21 ⟨v2, rfl, hv2, hb21⟩
        have hl := Lib.hid ((hl.out.below hb21).mono hb21.size)
        have bx := Lib.hid (blk_lift hb21 bx.out)
        have rw := Lib.hid ((rw.out.below hb21).mono hb21.size)
        have ch21 := (ch20).trans (hb21.mono (ch20).size)
        clear ch20
        clear hb21
        have hv2 := Lib.hid hv2
        clear e1a e1b
        go_wp2_with fail
        refine (afterOk_at K sj.pos (sj.regs.map TS) 32 h32.out j 0 HRA.out hv ht rfl (by omega) hv2.out).mono ?_
        rintro e w22 ⟨ua, uc, rfl, hU, hb22⟩
        have hl := Lib.hid ((hl.out.below hb22).mono hb22.size)
        have bx := Lib.hid (blk_lift hb22 bx.out)
        have rw := Lib.hid ((rw.out.below hb22).mono hb22.size)
        have hv2 := Lib.hid ((hv2.out.below hb22).mono hb22.size)
        have ch22 := (ch21).trans (hb22.mono (ch21).size)
        clear ch21
        clear hb22
        have hU := Lib.hid hU
        go_wp2_with fail
        obtain ⟨w23, hW⟩ : ∃ B, w22.alloc (.cells #[.int .i64 sj.pos, .slice ua 32 uc] 53) = B := ⟨_, rfl⟩
        rw [hW]
        have hbB : Below w22.heap.size w22 w23 := by rw [← hW]; exact alloc_below _ _
        have bU := Lib.hid (show w23.heap[w22.heap.size]? = some (.cells #[.int .i64 sj.pos, .slice ua 32 uc] 53 (0, 0)) by rw [← hW]; exact box2_new _ _ _ _)
        clear hW
        have hl := Lib.hid ((hl.out.below hbB).mono hbB.size)
        have bx := Lib.hid (blk_lift hbB bx.out)
        have rw := Lib.hid ((rw.out.below hbB).mono hbB.size)
        have hv2 := Lib.hid ((hv2.out.below hbB).mono hbB.size)
        have hU := Lib.hid ((hU.out.below hbB).mono hbB.size)
        have ch23 := (ch22).trans (hbB.mono (ch22).size)
        clear ch22
        clear hbB
        refine (twin_at hl.out).mono ?_
        rintro e w24 ⟨v3, rfl, hv3, hb24⟩
        have hl := Lib.hid ((hl.out.below hb24).mono hb24.size)
        have bx := Lib.hid (blk_lift hb24 bx.out)
        have rw := Lib.hid ((rw.out.below hb24).mono hb24.size)
        have hv2 := Lib.hid ((hv2.out.below hb24).mono hb24.size)
        have hU := Lib.hid ((hU.out.below hb24).mono hb24.size)
        have bU := Lib.hid (blk_lift hb24 bU.out)
        have ch24 := (ch23).trans (hb24.mono (ch23).size)
        clear ch23
        clear hb24
        have hv3 := Lib.hid hv3
        go_wp2_with fail
        refine (runOk_at K K y m er HRR.out hv ht rfl rfl (by omega) hv3.out).mono ?_
        rintro e w25 ⟨rfl, hb25⟩
        have hl := Lib.hid ((hl.out.below hb25).mono hb25.size)
        have bx := Lib.hid (blk_lift hb25 bx.out)
        have rw := Lib.hid ((rw.out.below hb25).mono hb25.size)
        have hv2 := Lib.hid ((hv2.out.below hb25).mono hb25.size)
        have hU := Lib.hid ((hU.out.below hb25).mono hb25.size)
        have bU := Lib.hid (blk_lift hb25 bU.out)
        have hv3 := Lib.hid ((hv3.out.below hb25).mono hb25.size)
        have ch25 := (ch24).trans (hb25.mono (ch24).size)
        clear ch24
        clear hb25
        have e1 := box2 bx.out
        obtain ⟨e1a, e1b⟩ := e1
        have e2 := box2 bU.out
        obtain ⟨e2a, e2b⟩ := e2
        go_wp2_with fail
        refine (sameState_at rfl rfl rw.out hU.out).mono ?_
        rintro e w26 ⟨rfl, hb26⟩
        have hl := Lib.hid ((hl.out.below hb26).mono hb26.size)
        have bx := Lib.hid (blk_lift hb26 bx.out)
        have rw := Lib.hid ((rw.out.below hb26).mono hb26.size)
        have hv2 := Lib.hid ((hv2.out.below hb26).mono hb26.size)
        have hU := Lib.hid ((hU.out.below hb26).mono hb26.size)
        have bU := Lib.hid (blk_lift hb26 bU.out)
        have hv3 := Lib.hid ((hv3.out.below hb26).mono hb26.size)
        have ch26 := (ch25).trans (hb26.mono (ch25).size)
        clear ch25
        clear hb26
        clear e1a e1b
        clear e2a e2b
        have e1 := box2 bx.out
        obtain ⟨e1a, e1b⟩ := e1
        have hlt : (sj.pos : Int) < (N : Int) := by have := HC1.out; omega
        obtain rfl := hc2
        go_wp2_with fail
        clear e1a e1b
        refine (awake03 _).mono ?_
        rintro e w27 ⟨rfl, hb27⟩
        have hl := Lib.hid ((hl.out.below hb27).mono hb27.size)
        have bx := Lib.hid (blk_lift hb27 bx.out)
        have rw := Lib.hid ((rw.out.below hb27).mono hb27.size)
        have hv2 := Lib.hid ((hv2.out.below hb27).mono hb27.size)
        have hU := Lib.hid ((hU.out.below hb27).mono hb27.size)
        have bU := Lib.hid (blk_lift hb27 bU.out)
        have hv3 := Lib.hid ((hv3.out.below hb27).mono hb27.size)
        have ch27 := (ch26).trans (hb27.mono (ch26).size)
        clear ch26
        clear hb27
        go_wp2
        go_ret
        exact ⟨rfl, ch27⟩
      · rcases hor with ⟨hor1, hor2⟩ | ⟨hor1, hor2⟩
        · have hKj : (K : Int) ≤ (j : Int) := by omega
          have HC1 := Lib.hid hc1
          clear HCS hor1 hor2 hc1
          go_wp2_with fail
          refine (twin_at hl.out).mono ?_
          rintro e w21 ⟨v2, rfl, hv2, hb21⟩
          have hl := Lib.hid ((hl.out.below hb21).mono hb21.size)
          have bx := Lib.hid (blk_lift hb21 bx.out)
          have rw := Lib.hid ((rw.out.below hb21).mono hb21.size)
          have ch21 := (ch20).trans (hb21.mono (ch20).size)
          clear ch20
          clear hb21
          have hv2 := Lib.hid hv2
          clear e1a e1b
          go_wp2_with fail
          refine (afterOk_at K sj.pos (sj.regs.map TS) 32 h32.out j 0 HRA.out hv ht rfl (by omega) hv2.out).mono ?_
          rintro e w22 ⟨ua, uc, rfl, hU, hb22⟩
          have hl := Lib.hid ((hl.out.below hb22).mono hb22.size)
          have bx := Lib.hid (blk_lift hb22 bx.out)
          have rw := Lib.hid ((rw.out.below hb22).mono hb22.size)
          have hv2 := Lib.hid ((hv2.out.below hb22).mono hb22.size)
          have ch22 := (ch21).trans (hb22.mono (ch21).size)
          clear ch21
          clear hb22
          have hU := Lib.hid hU
          go_wp2_with fail
          obtain ⟨w23, hW⟩ : ∃ B, w22.alloc (.cells #[.int .i64 sj.pos, .slice ua 32 uc] 53) = B := ⟨_, rfl⟩
          rw [hW]
          have hbB : Below w22.heap.size w22 w23 := by rw [← hW]; exact alloc_below _ _
          have bU := Lib.hid (show w23.heap[w22.heap.size]? = some (.cells #[.int .i64 sj.pos, .slice ua 32 uc] 53 (0, 0)) by rw [← hW]; exact box2_new _ _ _ _)
          clear hW
          have hl := Lib.hid ((hl.out.below hbB).mono hbB.size)
          have bx := Lib.hid (blk_lift hbB bx.out)
          have rw := Lib.hid ((rw.out.below hbB).mono hbB.size)
          have hv2 := Lib.hid ((hv2.out.below hbB).mono hbB.size)
          have hU := Lib.hid ((hU.out.below hbB).mono hbB.size)
          have ch23 := (ch22).trans (hbB.mono (ch22).size)
          clear ch22
          clear hbB
          refine (twin_at hl.out).mono ?_
          rintro e w24 ⟨v3, rfl, hv3, hb24⟩
          have hl := Lib.hid ((hl.out.below hb24).mono hb24.size)
          have bx := Lib.hid (blk_lift hb24 bx.out)
          have rw := Lib.hid ((rw.out.below hb24).mono hb24.size)
          have hv2 := Lib.hid ((hv2.out.below hb24).mono hb24.size)
          have hU := Lib.hid ((hU.out.below hb24).mono hb24.size)
          have bU := Lib.hid (blk_lift hb24 bU.out)
          have ch24 := (ch23).trans (hb24.mono (ch23).size)
          clear ch23
          clear hb24
          have hv3 := Lib.hid hv3
          go_wp2_with fail
          refine (runOk_at K K y m er HRR.out hv ht rfl rfl (by omega) hv3.out).mono ?_
          rintro e w25 ⟨rfl, hb25⟩
          have hl := Lib.hid ((hl.out.below hb25).mono hb25.size)
          have bx := Lib.hid (blk_lift hb25 bx.out)
          have rw := Lib.hid ((rw.out.below hb25).mono hb25.size)
          have hv2 := Lib.hid ((hv2.out.below hb25).mono hb25.size)
          have hU := Lib.hid ((hU.out.below hb25).mono hb25.size)
          have bU := Lib.hid (blk_lift hb25 bU.out)
          have hv3 := Lib.hid ((hv3.out.below hb25).mono hb25.size)
          have ch25 := (ch24).trans (hb25.mono (ch24).size)
          clear ch24
          clear hb25
          have e1 := box2 bx.out
          obtain ⟨e1a, e1b⟩ := e1
          have e2 := box2 bU.out
          obtain ⟨e2a, e2b⟩ := e2
          go_wp2_with fail
          refine (sameState_at rfl rfl rw.out hU.out).mono ?_
          rintro e w26 ⟨rfl, hb26⟩
          have hl := Lib.hid ((hl.out.below hb26).mono hb26.size)
          have bx := Lib.hid (blk_lift hb26 bx.out)
          have rw := Lib.hid ((rw.out.below hb26).mono hb26.size)
          have hv2 := Lib.hid ((hv2.out.below hb26).mono hb26.size)
          have hU := Lib.hid ((hU.out.below hb26).mono hb26.size)
          have bU := Lib.hid (blk_lift hb26 bU.out)
          have hv3 := Lib.hid ((hv3.out.below hb26).mono hb26.size)
          have ch26 := (ch25).trans (hb26.mono (ch25).size)
          clear ch25
          clear hb26
          clear e1a e1b
          clear e2a e2b
          have e1 := box2 bx.out
          obtain ⟨e1a, e1b⟩ := e1
          have hle : (N : Int) ≤ (sj.pos : Int) := by have := HC1.out; omega
          obtain rfl := hc2
          obtain rfl := hc3
          obtain ⟨rg, ro, rfl, hrg, hrc⟩ := rw.out.get hc4
          have hyy : (y.toList == y.toList) = true := by simp
          rw [Nat.add_zero] at hrc
          clear hc4
          go_wp2_with fail
          clear e1a e1b
          refine (awake03 _).mono ?_
          rintro e w27 ⟨rfl, hb27⟩
          have hl := Lib.hid ((hl.out.below hb27).mono hb27.size)
          have bx := Lib.hid (blk_lift hb27 bx.out)
          have rw := Lib.hid ((rw.out.below hb27).mono hb27.size)
          have hv2 := Lib.hid ((hv2.out.below hb27).mono hb27.size)
          have hU := Lib.hid ((hU.out.below hb27).mono hb27.size)
          have bU := Lib.hid (blk_lift hb27 bU.out)
          have hv3 := Lib.hid ((hv3.out.below hb27).mono hb27.size)
          have ch27 := (ch26).trans (hb27.mono (ch26).size)
          clear ch26
          clear hb27
          go_wp2
          go_ret
          exact ⟨rfl, ch27⟩
        · have hjK : (j : Int) < (K : Int) := by omega
          have hNp : (N : Int) ≤ (sj.pos : Int) := by omega
          have HC1 := Lib.hid hc1
          clear HCS hor1 hor2 hc1
          go_wp2_with fail
          refine (twin_at hl.out).mono ?_
          rintro e w21 ⟨v2, rfl, hv2, hb21⟩
          have hl := Lib.hid ((hl.out.below hb21).mono hb21.size)
          have bx := Lib.hid (blk_lift hb21 bx.out)
          have rw := Lib.hid ((rw.out.below hb21).mono hb21.size)
          have ch21 := (ch20).trans (hb21.mono (ch20).size)
          clear ch20
          clear hb21
          have hv2 := Lib.hid hv2
          clear e1a e1b
          go_wp2_with fail
          refine (afterOk_at K sj.pos (sj.regs.map TS) 32 h32.out j 0 HRA.out hv ht rfl (by omega) hv2.out).mono ?_
          rintro e w22 ⟨ua, uc, rfl, hU, hb22⟩
          have hl := Lib.hid ((hl.out.below hb22).mono hb22.size)
          have bx := Lib.hid (blk_lift hb22 bx.out)
          have rw := Lib.hid ((rw.out.below hb22).mono hb22.size)
          have hv2 := Lib.hid ((hv2.out.below hb22).mono hb22.size)
          have ch22 := (ch21).trans (hb22.mono (ch21).size)
          clear ch21
          clear hb22
          have hU := Lib.hid hU
          go_wp2_with fail
          obtain ⟨w23, hW⟩ : ∃ B, w22.alloc (.cells #[.int .i64 sj.pos, .slice ua 32 uc] 53) = B := ⟨_, rfl⟩
          rw [hW]
          have hbB : Below w22.heap.size w22 w23 := by rw [← hW]; exact alloc_below _ _
          have bU := Lib.hid (show w23.heap[w22.heap.size]? = some (.cells #[.int .i64 sj.pos, .slice ua 32 uc] 53 (0, 0)) by rw [← hW]; exact box2_new _ _ _ _)
          clear hW
          have hl := Lib.hid ((hl.out.below hbB).mono hbB.size)
          have bx := Lib.hid (blk_lift hbB bx.out)
          have rw := Lib.hid ((rw.out.below hbB).mono hbB.size)
          have hv2 := Lib.hid ((hv2.out.below hbB).mono hbB.size)
          have hU := Lib.hid ((hU.out.below hbB).mono hbB.size)
          have ch23 := (ch22).trans (hbB.mono (ch22).size)
          clear ch22
          clear hbB
          refine (twin_at hl.out).mono ?_
          rintro e w24 ⟨v3, rfl, hv3, hb24⟩
          have hl := Lib.hid ((hl.out.below hb24).mono hb24.size)
          have bx := Lib.hid (blk_lift hb24 bx.out)
          have rw := Lib.hid ((rw.out.below hb24).mono hb24.size)
          have hv2 := Lib.hid ((hv2.out.below hb24).mono hb24.size)
          have hU := Lib.hid ((hU.out.below hb24).mono hb24.size)
          have bU := Lib.hid (blk_lift hb24 bU.out)
          have ch24 := (ch23).trans (hb24.mono (ch23).size)
          clear ch23
          clear hb24
          have hv3 := Lib.hid hv3
          go_wp2_with fail
          refine (runOk_at K K y m er HRR.out hv ht rfl rfl (by omega) hv3.out).mono ?_
          rintro e w25 ⟨rfl, hb25⟩
          have hl := Lib.hid ((hl.out.below hb25).mono hb25.size)
          have bx := Lib.hid (blk_lift hb25 bx.out)
          have rw := Lib.hid ((rw.out.below hb25).mono hb25.size)
          have hv2 := Lib.hid ((hv2.out.below hb25).mono hb25.size)
          have hU := Lib.hid ((hU.out.below hb25).mono hb25.size)
          have bU := Lib.hid (blk_lift hb25 bU.out)
          have hv3 := Lib.hid ((hv3.out.below hb25).mono hb25.size)
          have ch25 := (ch24).trans (hb25.mono (ch24).size)
          clear ch24
          clear hb25
          have e1 := box2 bx.out
          obtain ⟨e1a, e1b⟩ := e1
          have e2 := box2 bU.out
          obtain ⟨e2a, e2b⟩ := e2
          go_wp2_with fail
          refine (sameState_at rfl rfl rw.out hU.out).mono ?_
          rintro e w26 ⟨rfl, hb26⟩
          have hl := Lib.hid ((hl.out.below hb26).mono hb26.size)
          have bx := Lib.hid (blk_lift hb26 bx.out)
          have rw := Lib.hid ((rw.out.below hb26).mono hb26.size)
          have hv2 := Lib.hid ((hv2.out.below hb26).mono hb26.size)
          have hU := Lib.hid ((hU.out.below hb26).mono hb26.size)
          have bU := Lib.hid (blk_lift hb26 bU.out)
          have hv3 := Lib.hid ((hv3.out.below hb26).mono hb26.size)
          have ch26 := (ch25).trans (hb26.mono (ch25).size)
          clear ch25
          clear hb26
          clear e1a e1b
          clear e2a e2b
          have e1 := box2 bx.out
          obtain ⟨e1a, e1b⟩ := e1
          have hle : (N : Int) ≤ (sj.pos : Int) := by have := HC1.out; omega
          obtain rfl := hc2
          obtain rfl := hc3
          obtain ⟨rg, ro, rfl, hrg, hrc⟩ := rw.out.get hc4
          have hyy : (y.toList == y.toList) = true := by simp
          rw [Nat.add_zero] at hrc
          clear hc4
          go_wp2_with fail
          clear e1a e1b
          refine (awake03 _).mono ?_
          rintro e w27 ⟨rfl, hb27⟩
          have hl := Lib.hid ((hl.out.below hb27).mono hb27.size)
          have bx := Lib.hid (blk_lift hb27 bx.out)
          have rw := Lib.hid ((rw.out.below hb27).mono hb27.size)
          have hv2 := Lib.hid ((hv2.out.below hb27).mono hb27.size)
          have hU := Lib.hid ((hU.out.below hb27).mono hb27.size)
          have bU := Lib.hid (blk_lift hb27 bU.out)
          have hv3 := Lib.hid ((hv3.out.below hb27).mono hb27.size)
          have ch27 := (ch26).trans (hb27.mono (ch26).size)
          clear ch26
          clear hb27
          go_wp2
          go_ret
          exact ⟨rfl, ch27⟩

theorem law_RunParts {w : World} (v : Value) (l : List Ins) (hl : InsRow w w.heap.size v l) (s : ByteArray) (hs : s.size ≤ 140737488355328) (k : Int) (_ : i64 k) :
    Calls Try.prog 17 #[v, .string s, .int .i64 k] w fun e w' => e = .returned (.bool true) ∧ Below w.heap.size w w' := by
  obtain ⟨ao, cap, rfl⟩ := hl.len
  have HN : Hid (l.length = l.length) := Lib.hid rfl
  cases hv : validB l
  · exact law_RunParts_i ao _ cap l HN hl s k hv
  · have hN4 := validB_len hv
    cases hx : isTree s
    · exact law_RunParts_y ao _ cap l HN hN4 hl s hs k hv hx
    · by_cases h0 : k < 0
      · exact law_RunParts_lo ao _ cap l HN hN4 hl s hs k hv hx h0
      · by_cases h1 : 300 < k
        · exact law_RunParts_hi ao _ cap l HN hN4 hl s hs k hv hx (by omega) h1
        · obtain ⟨t, rfl, ht⟩ := isTree_get hx
          obtain ⟨K, rfl⟩ : ∃ K : Nat, k = K := ⟨k.toNat, by omega⟩
          exact law_RunParts_ok ao _ cap l HN hN4 hl t ht hs hx K (by omega) hv

end Go.Proofs.Ytieocihlkpipmaa


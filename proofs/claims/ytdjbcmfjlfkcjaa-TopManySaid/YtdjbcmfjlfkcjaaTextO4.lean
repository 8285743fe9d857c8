/- ref02's Decimal, TextOf, Text, at small numbers. -/
import Derived.Test.YtdjbcmfjlfkcjaaDue4
namespace Go.Proofs.Ytdjbcmfjlfkcjaa
open Go.RowKit

theorem app_str {P : Program} {tS tE tu : Nat} (E : ElemT P tS tE (.int .u8 0) 1 1) (hu : P.underlying tu = some .string) {ops : Array Oper} {rest : List Oper} {o : Oper} {a : Act} {Q : Exit → Act → World → Prop}
    (hgd : o.guard = none) (sl x : Operand) (ho : o.op = .call { callee := .builtin .append, args := #[sl, x], argTypes := #[tS, tu] }) {w : World} {base : Nat} {v : Value} {n : Nat} {xs : List Value}
    (hs : a.eval sl = v) (hown : w.ownsRow base tE 1 v n xs) (s : ByteArray) (hx : a.eval x = .string s) (hby : n + s.size ≤ 140737488355328) (hbase : base ≤ w.heap.size) {B : Nat} {w0 : World} (hb : Below B w0 w) (hB : B ≤ base)
    (h : ∀ v' w', w'.ownsRow base tE 1 v' (n + s.size) (xs ++ Lib.strCells s) → Below B w0 w' → wpList P ops Q rest (a.put o.dst v') w') :
    wpList P ops Q (o :: rest) a w := by
  obtain ⟨i, hi, hz, hsize, hbytes⟩ := info_parts E.hi
  have hlt := hown.lt
  obtain ⟨v', w', hr, h2, h3, _⟩ := Lib.run_append_own_string (P := P) w base tS tu o.type tE i E.ht hu hi hz hsize hbytes v n xs hown s (by unfold maxLen; omega) hby hbase
  refine wpList_plain hgd fun K hK' => ?_
  unfold Oper.wp execOp
  simp only [ho, resolve, invoke, builtin, Sem.run_bind, Sem.run_pure, Result.andThen_ok, List.map_toArray, List.map_cons, List.map_nil, hs, hx, hr]
  exact hK' _ _ (h v' w' h2 (hb.grown h3 (by omega) (fun k hk => by have := (hlt k hk).1; omega)))

/-- Strings, with a semicolon and a blank between. -/
def jn : List (List UInt8) → List UInt8
  | [] => []
  | t :: ts => t ++ (ts.map fun t => [59, 32] ++ t).flatten
theorem jn_succ (T : List (List UInt8)) (k : Nat) {t : List UInt8} (ht : T[k]? = some t) : jn (T.take (k + 1)) = jn (T.take k) ++ (if k = 0 then [] else [59, 32]) ++ t := by
  rw [take_snoc' _ _ _ ht]
  cases k with
  | zero => simp [jn]
  | succ k =>
    cases T with
    | nil => simp at ht
    | cons a T => simp [jn]
theorem jn_mono (T : List (List UInt8)) (k : Nat) : (jn (T.take k)).length ≤ (jn T).length := by
  cases T with
  | nil => simp
  | cons a T =>
    cases k with
    | zero => simp [jn]
    | succ k =>
      have h : ((T.map fun t => [59, 32] ++ t).flatten : List UInt8) = ((T.take k).map fun t => [59, 32] ++ t).flatten ++ ((T.drop k).map fun t => [59, 32] ++ t).flatten := by
        rw [← List.flatten_append, ← List.map_append, List.take_append_drop]
      simp only [jn, List.take_succ_cons, List.length_append]
      rw [h, List.length_append]; omega

def nameL : List ByteArray := [⟨#[115, 101, 116]⟩, ⟨#[109, 111, 118, 101]⟩, ⟨#[99, 111, 110, 115]⟩, ⟨#[104, 101, 97, 100]⟩, ⟨#[116, 97, 105, 108]⟩, ⟨#[106, 117, 109, 112]⟩]
end Go.Proofs.Ytdjbcmfjlfkcjaa


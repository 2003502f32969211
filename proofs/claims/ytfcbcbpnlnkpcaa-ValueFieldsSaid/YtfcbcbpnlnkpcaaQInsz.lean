/- Copies of whole elements within a row of the call's own, and the rows that an insertion makes. -/
import Derived.Test.YtfcbcbpnlnkpcaaQBase
import Derived.Lib.AppendZerosOnto
import Derived.Lib.Overlaps
import Derived.Laws.Externs
import Derived.Shelf.Spec.SlicesInsert
namespace Go.Proofs.Ytfcbcbpnlnkpcaa
set_option linter.all false
open Go.RowKit
theorem run_copy_rowz {P : Program} (w : World) (dT sT ty elem : TypeId) (sz g o dLen dCap : Nat) (a : Addr) (sLen sCap k : Nat) (cur : Array Value) (t : TypeId) (cs : List Value)
    (hu : P.underlying dT = some (.slice elem)) (hs : (P.info? elem).map (·.size) = some sz)
    (hg : w.heap[g]? = some (.cells cur t (0, 0))) (hk : Nat.min sLen dLen = k) (hn : cs.length = k * sz)
    (hsrc : ∀ j v, cs[j]? = some v → w.cell? (a.add j) = some v) (hfit : o + cs.length ≤ cur.size) (h1 : ∀ v ∈ cs, v.oneCell' = true) :
    (Builtin.copy_ #[dT, sT] ty #[.slice (some ⟨g, o, none⟩) dLen dCap, .slice (some a) sLen sCap]).run P w =
      .ok (goInt k) (w.setRow g (cur.toList.take o ++ cs ++ cur.toList.drop (o + cs.length)).toArray) := by
  have hl := run_loadCells_list (P := P) w a cs hsrc
  have hst := run_storeCells_at P g o t cs 0 cur w hg (by simpa using hfit) h1
  cases hq : P.info? elem with
  | none => simp [hq] at hs
  | some i =>
    have hi : i.size = sz := by simpa [hq] using hs
    rw [hn] at hl
    simp [Builtin.copy_, run_underlying hu, Builtin.lenOf, Builtin.firstCells, sizeOf, typeInfo, hq, hi, hk, hl, hst, goInt]
/-- A row with one element more at a place. -/
def insL (sz i : Nat) (xs vs : List Value) : List Value := xs.take (i * sz) ++ vs ++ xs.drop (i * sz)
/-- In place: first what stands from the place on goes one element on, then the new element is laid. -/
theorem insL_place {sz i n : Nat} {cur xs vs : List Value} (hx : cur.take (n * sz) = xs) (hc : (n + 1) * sz ≤ cur.length) (hv : vs.length = sz) (hi : i ≤ n) :
    ((cur.take ((i + 1) * sz) ++ xs.drop (i * sz) ++ cur.drop ((i + 1) * sz + (xs.drop (i * sz)).length)).take (i * sz) ++ vs ++ (cur.take ((i + 1) * sz) ++ xs.drop (i * sz) ++ cur.drop ((i + 1) * sz + (xs.drop (i * sz)).length)).drop (i * sz + vs.length)).take ((n + 1) * sz) = insL sz i xs vs := by
  have e1 : (n + 1) * sz = n * sz + sz := by rw [Nat.add_mul, Nat.one_mul]
  have e2 : (i + 1) * sz = i * sz + sz := by rw [Nat.add_mul, Nat.one_mul]
  have hin : i * sz ≤ n * sz := Nat.mul_le_mul_right _ hi
  have hxl : xs.length = n * sz := by rw [← hx, List.length_take]; omega
  rw [e1, e2]
  rw [e1] at hc
  unfold insL
  generalize n * sz = N at *
  generalize i * sz = I at *
  have htk : xs.take I = cur.take I := by rw [← hx, List.take_take, Nat.min_eq_left hin]
  have hdl : (xs.drop I).length = N - I := by rw [List.length_drop, hxl]
  have t1 : (cur.take (I + sz) ++ xs.drop I ++ cur.drop (I + sz + (xs.drop I).length)).take I = cur.take I := by
    rw [List.append_assoc, List.take_append_of_le_length (by rw [List.length_take]; omega), List.take_take, Nat.min_eq_left (by omega)]
  have t2 : (cur.take (I + sz) ++ xs.drop I ++ cur.drop (I + sz + (xs.drop I).length)).drop (I + vs.length) = xs.drop I ++ cur.drop (I + sz + (xs.drop I).length) := by
    rw [List.append_assoc, List.drop_left' (by rw [List.length_take]; omega)]
  rw [t1, t2, htk, ← List.append_assoc, List.take_left' (by simp only [List.length_append, List.length_take, hdl, hv]; omega)]
/-- Into a new row. -/
theorem insL_fresh {sz i n r : Nat} {xs vs zs : List Value} (hx : xs.length = n * sz) (hz : zs.length = (n + 1 - i) * sz + r) (hv : vs.length = sz) (hi : i ≤ n) :
    (((xs.take (i * sz) ++ zs).take (i * sz) ++ vs ++ (xs.take (i * sz) ++ zs).drop (i * sz + vs.length)).take ((i + 1) * sz) ++ xs.drop (i * sz) ++
      ((xs.take (i * sz) ++ zs).take (i * sz) ++ vs ++ (xs.take (i * sz) ++ zs).drop (i * sz + vs.length)).drop ((i + 1) * sz + (xs.drop (i * sz)).length)).take ((n + 1) * sz) = insL sz i xs vs := by
  have e1 : (n + 1) * sz = n * sz + sz := by rw [Nat.add_mul, Nat.one_mul]
  have e2 : (i + 1) * sz = i * sz + sz := by rw [Nat.add_mul, Nat.one_mul]
  have hin : i * sz ≤ n * sz := Nat.mul_le_mul_right _ hi
  have e3 : (n + 1 - i) * sz = n * sz + sz - i * sz := by rw [Nat.sub_mul, e1]
  rw [e3] at hz
  rw [e1, e2]
  unfold insL
  generalize n * sz = N at *
  generalize i * sz = I at *
  have hl : (xs.take I).length = I := by rw [List.length_take]; omega
  have t1 : (xs.take I ++ zs).take I = xs.take I := List.take_left' hl
  rw [t1]
  have t2 : (xs.take I ++ vs ++ (xs.take I ++ zs).drop (I + vs.length)).take (I + sz) = xs.take I ++ vs := List.take_left' (by rw [List.length_append, hl, hv])
  rw [t2, List.take_left' (by simp only [List.length_append, hl, hv, List.length_drop, hx]; omega)]
theorem cells_of_row {w : World} {g : Nat} {cs : Array Value} {t : TypeId} (hg : w.heap[g]? = some (.cells cs t (0, 0))) (j : Nat) : w.cell? ⟨g, j, none⟩ = cs[j]? := cell_of_row w g j cs t (0, 0) hg
/-- Behind an insertion: a row of one element more, in the old block or in a new one. -/
def RetIns (T : TypeId) (sz n base : Nat) (v : Value) (L : List Value) (w : World) (e : Ending) (w' : World) : Prop :=
  ∃ A' c', e = .returned (.slice A' (n + 1) c') ∧ w'.ownsRow base T sz (.slice A' (n + 1) c') (n + 1) L ∧ w.grownBy w' v.ownBlock ∧ ((Value.slice A' (n + 1) c').ownBlock = v.ownBlock ∨ (Value.slice A' (n + 1) c').ownBlock = some w.heap.size)
theorem own_of_row {w : World} {base g n c sz : Nat} {T : TypeId} {cur : Array Value} {xs : List Value} (hb : base ≤ g) (hg : w.heap[g]? = some (.cells cur T (0, 0))) (hnc : n ≤ c) (hc : c ≤ maxLen) (hs : cur.size = c * sz) (hx : cur.toList.take (n * sz) = xs) :
    w.ownsRow base T sz (.slice (some ⟨g, 0, none⟩) n c) n xs :=
  ⟨by rw [← hx, List.length_take, Array.length_toList, hs]; exact Nat.min_eq_left (Nat.mul_le_mul_right _ hnc), .inr ⟨g, c, cur, rfl, hb, hg, hnc, hc, hs, hx⟩⟩
theorem gb_setRow {w : World} {g : Nat} {cs : Array Value} : w.grownBy (w.setRow g cs) (some g) := ⟨rfl, rfl, rfl, by simp, fun k _ hk => setRow_other w g k _ (fun e => hk (by simp [e]))⟩
end Go.Proofs.Ytfcbcbpnlnkpcaa

/- scrivenerref6.Parse. (Printed by gen/drparse.py.) -/
import Derived.Test.YtfcbcbpnlnkpcaaDoorQPp
import Derived.Test.YtfcbcbpnlnkpcaaDoorQWid
import Derived.Test.YtfcbcbpnlnkpcaaDoorQDecParse
import Derived.Test.YtfcbcbpnlnkpcaaDoorQRFr
import Derived.Test.YtfcbcbpnlnkpcaaDoorQMem
import Derived.Deep.CutRange
namespace Go.Proofs.YtfcbcbpnlnkpcaaDoor
set_option linter.all false
open Go.RowKit
theorem byD (x : Bool) (V : Nat) (w : World) : Calls Tryd.prog 40 #[.agg #[.int .u64 (wU V : Int), .int .u64 (wL V : Int), .bool x], .int .u64 10] w
    (Ret (.tuple #[.agg #[.int .u64 (wU (V % 340282366920938463463374607431768211456 * 10) : Int), .int .u64 (wL (V % 340282366920938463463374607431768211456 * 10) : Int), .bool x], .bool (decide (V % 340282366920938463463374607431768211456 * 10 < 340282366920938463463374607431768211456))]) w) :=
  (rby_ten x (wU V) (wL V) (wU_lt V) (wL_lt V) w).mono fun e w' ⟨U, L, ok, he, hU, hL, h1, h2, hb⟩ => by
    rw [wUL] at h1 h2
    have e1 : U = wU (V % 340282366920938463463374607431768211456 * 10) := by unfold wU; omega
    have e2 : L = wL (V % 340282366920938463463374607431768211456 * 10) := by unfold wL; omega
    rw [he, e1, e2, h2]
    exact ⟨rfl, hb⟩
theorem addD (x : Bool) (V d : Nat) (hd : d < 10) (w : World) : Calls Tryd.prog 42 #[.agg #[.int .u64 (wU V : Int), .int .u64 (wL V : Int), .bool x], .agg #[.int .u64 0, .int .u64 (d : Int), .bool x]] w
    (Ret (.tuple #[.agg #[.int .u64 (wU (V % 340282366920938463463374607431768211456 + d) : Int), .int .u64 (wL (V % 340282366920938463463374607431768211456 + d) : Int), .bool x], .bool (decide (V % 340282366920938463463374607431768211456 + d < 340282366920938463463374607431768211456))]) w) := by
  have h : ∀ e w', (∃ (U L : Nat) (ok : Bool), e = .returned (.tuple #[.agg #[.int .u64 U, .int .u64 L, .bool x], .bool ok]) ∧ U < 18446744073709551616 ∧ L < 18446744073709551616 ∧ U * 18446744073709551616 + L = (wU V * 18446744073709551616 + wL V + d) % 340282366920938463463374607431768211456 ∧ ok = decide (wU V * 18446744073709551616 + wL V + d < 340282366920938463463374607431768211456) ∧ Below w.heap.size w w') →
      Ret (.tuple #[.agg #[.int .u64 (wU (V % 340282366920938463463374607431768211456 + d) : Int), .int .u64 (wL (V % 340282366920938463463374607431768211456 + d) : Int), .bool x], .bool (decide (V % 340282366920938463463374607431768211456 + d < 340282366920938463463374607431768211456))]) w e w' := fun e w' ⟨U, L, ok, he, hU, hL, h1, h2, hb⟩ => by
    rw [wUL] at h1 h2
    have e1 : U = wU (V % 340282366920938463463374607431768211456 + d) := by unfold wU; omega
    have e2 : L = wL (V % 340282366920938463463374607431768211456 + d) := by unfold wL; omega
    rw [he, e1, e2, h2]
    exact ⟨rfl, hb⟩
  cases x
  · exact (radd_dig_false _ _ _ (wU_lt V) (wL_lt V) hd w).mono h
  · exact (radd_dig_true _ _ _ (wU_lt V) (wL_lt V) hd w).mono h
theorem By.own {w : World} {base n c : Nat} {A : Option Addr} {l : List UInt8} (h : w.ownsRow base 5 1 (.slice A n c) n (l.map bv)) (hn : 0 < n) (hl : l.length = n) : ∃ g, A = some ⟨g, 0, none⟩ ∧ By w g l := by
  obtain ⟨g, b, hA, _, hg, _, _, _⟩ := own_at h hn
  refine ⟨g, hA, hg, fun j b hj => ?_⟩
  have hjn : j < n := by rw [← hl]; exact (List.getElem?_eq_some_iff.1 hj).1
  obtain ⟨g', b', hA', _, _, hb', hc', _⟩ := own_at h hjn
  rw [hA] at hA'
  injection hA' with e
  injection e with e1 _
  rw [hb'] at hj
  injection hj with e2
  rw [e1, ← e2]
  exact hc'
theorem any_take {l : List UInt8} {j : Nat} (h : j < l.length) : (l.take (j + 1)).any (· != 48) = ((l.take j).any (· != 48) || l[j] != 48) := by
  rw [List.take_succ_eq_append_getElem h, List.any_append]
  simp
theorem any_all (l : List UInt8) : l.all (· == 48) = !l.any (· != 48) := by
  induction l with
  | nil => rfl
  | cons b l ih => rw [List.all_cons, List.any_cons, ih]; cases h : b == 48 <;> simp [bne, h]
theorem form2_short {neg : Bool} {wh pa : List UInt8} (h : pa.length < 1) : form2 neg wh pa true = false := by
  have e : digB pa = false := by unfold digB; rw [decide_eq_false (by omega), Bool.and_false]
  unfold form2
  rw [e]
  simp
theorem form2_long {neg : Bool} {wh pa : List UInt8} (h : 18 < pa.length) : form2 neg wh pa true = false := by
  have e : decide (pa.length ≤ 18) = false := decide_eq_false (by omega)
  unfold form2
  rw [e]
  simp
theorem form2_true {neg : Bool} {wh pa : List UInt8} (h1 : wh.all isD = true) (h2 : pa.all isD = true) (h3 : 0 < pa.length) (h4 : pa.length ≤ 18) :
    form2 neg wh pa true = (decide (0 < wh.length) && !(wh.head? == some 48 && decide (1 < wh.length)) && !(neg && (wh ++ pa).all (· == 48))) := by
  unfold form2
  rw [digB_of h1, digB_of h2, decide_eq_true h3, decide_eq_true h4]
  simp
theorem form2_false {neg : Bool} {wh pa : List UInt8} (h1 : wh.all isD = true) :
    form2 neg wh pa false = (decide (0 < wh.length) && !(wh.head? == some 48 && decide (1 < wh.length)) && !(neg && (wh ++ pa).all (· == 48))) := by
  unfold form2
  rw [digB_of h1]
  simp
theorem w64_succ {j : Nat} (h : (j : Int) + 1 ≤ 9223372036854775807) : wrap64 ((j : Int) + 1) = (((j + 1 : Nat) : Nat) : Int) := by unfold wrap64; omega
theorem wrap_d {b : Nat} (h1 : 48 ≤ b) (h2 : b ≤ 57) : IntKind.u64.wrap (IntKind.u8.wrap ((b : Int) - 48)) = ((b - 48 : Nat) : Int) := by rw [IntKind.wrap_u8, IntKind.wrap_u64]; omega
/-- One round of the second loop. -/
theorem over_step {V D0 D1 d : Nat} {ov : Bool} (h0 : ov = false → V = D0 ∧ V < 340282366920938463463374607431768211456) (h1 : ov = true → 340282366920938463463374607431768211456 ≤ D0) (hD : D1 = D0 * 10 + d) :
    ((ov || !decide (V % 340282366920938463463374607431768211456 * 10 < 340282366920938463463374607431768211456) || !decide (V % 340282366920938463463374607431768211456 * 10 % 340282366920938463463374607431768211456 + d < 340282366920938463463374607431768211456)) = false → V % 340282366920938463463374607431768211456 * 10 % 340282366920938463463374607431768211456 + d = D1 ∧ V % 340282366920938463463374607431768211456 * 10 % 340282366920938463463374607431768211456 + d < 340282366920938463463374607431768211456) ∧
    ((ov || !decide (V % 340282366920938463463374607431768211456 * 10 < 340282366920938463463374607431768211456) || !decide (V % 340282366920938463463374607431768211456 * 10 % 340282366920938463463374607431768211456 + d < 340282366920938463463374607431768211456)) = true → 340282366920938463463374607431768211456 ≤ D1) := by
  cases ov with
  | true => exact ⟨fun h => by simp at h, fun _ => by have := h1 rfl; omega⟩
  | false =>
    obtain ⟨rfl, hv⟩ := h0 rfl
    rw [Nat.mod_eq_of_lt hv]
    by_cases h2 : V * 10 < 340282366920938463463374607431768211456
    · rw [Nat.mod_eq_of_lt h2, decide_eq_true h2]
      by_cases h3 : V * 10 + d < 340282366920938463463374607431768211456
      · rw [decide_eq_true h3]
        exact ⟨fun _ => ⟨hD.symm, h3⟩, fun h => by simp at h⟩
      · rw [decide_eq_false h3]
        exact ⟨fun h => by simp at h, fun _ => by omega⟩
    · rw [decide_eq_false h2]
      exact ⟨fun h => by simp at h, fun _ => by omega⟩

end Go.Proofs.YtfcbcbpnlnkpcaaDoor

/- decimal: wide numbers: of, less, plus. -/
import Derived.Test.YtfcbcbpnlnkpcaaDoorQDiv
import Derived.Test.YtfcbcbpnlnkpcaaDoorQMul64
import Derived.Test.YtfcbcbpnlnkpcaaDoorQBase
import Derived.LoopTactic
import Derived.StillTailTactics
import Derived.Deep.QuietTactic
import Derived.Deep.Cut
import Derived.BigQuiet
import Derived.Outline
namespace Go.Proofs.YtfcbcbpnlnkpcaaDoor
set_option linter.all false
open Go.RowKit
set_option maxRecDepth 100000 in
set_option maxHeartbeats 800000 in
theorem of_pos (m : Nat) (hm : m ≤ 9223372036854775807) (t : Nat) (ht : t ≤ 18) (w : World) :
    Calls Tryd.prog 31 #[.int .i64 (m : Int), .int .i64 t] w
      (Ret (.agg #[.int .u64 ((m * 10 ^ t / 18446744073709551616 : Nat) : Int), .int .u64 ((m * 10 ^ t % 18446744073709551616 : Nat) : Int), .bool false]) w) := by
  have HT : Hid (10 ^ t ≤ 10 ^ 18) := Nat.pow_le_pow_right (by omega) ht
  have hc : Hid (∀ w, Calls Tryd.prog 38 #[.int .u64 (m : Nat), .int .u64 (10 ^ t : Nat)] w (RetS (.tuple #[.int .u64 ((m * 10 ^ t / 18446744073709551616 : Nat) : Int), .int .u64 ((m * 10 ^ t % 18446744073709551616 : Nat) : Int)]) w)) :=
    fun w => mul64_any m (10 ^ t) (by omega) (by have := HT.out; omega) w
  generalize hA : ((m * 10 ^ t / 18446744073709551616 : Nat) : Int) = A at *
  generalize hB : ((m * 10 ^ t % 18446744073709551616 : Nat) : Int) = B at *
  clear hA hB
  have h0 : ¬ ((m : Int) < 0) := by omega
  go_enter Tryd.func31, Tryd.ntmps31
  go_wp2_with fail
  go_loop [6, 16] (fun p i => ∃ k x : Nat, k ≤ t ∧ i = .int .i64 k ∧ p = .int .u64 (x : Int) ∧ Hid (x = 10 ^ k)) (fun _ i => t - (intOf i).toNat)
  case atStart => exact ⟨0, 1, Nat.zero_le _, rfl, rfl, rfl⟩
  case round =>
    obtain ⟨k, x, hk, rfl, rfl, HX⟩ := hrel
    by_cases hlt : k < t
    · have hx : x ≤ 1000000000000000000 := by rw [HX.out]; have : 10 ^ k ≤ 10 ^ 18 := Nat.pow_le_pow_right (by omega) (by omega); omega
      have HN : Hid (x * 10 = 10 ^ (k + 1)) := by show _ = _; rw [HX.out, Nat.pow_succ]
      clear HX
      go_wp2_with fail
      go_round
      case rel => exact ⟨k + 1, x * 10, by omega, by go_num, congrArg (Value.int .u64) (by omega), HN⟩
      case measure => simp [intOf]; omega
    · obtain rfl : k = t := by omega
      go_wp2_with (go_at_call 38; refine (by rw [HX.out]; exact hc.out _ : Calls Tryd.prog 38 #[.int .u64 (m : Nat), .int .u64 (x : Nat)] _ _).mono ?_; rintro e w' ⟨rfl, rfl⟩)
      refine bodyPost_end (v := .agg #[.int .u64 A, .int .u64 B, .bool false]) (by simp [results, Tryd.results31, go_sem]) rfl ⟨rfl, ?_⟩
      exact (Below.refl _ _).alloc (Nat.le_refl _) _
set_option maxRecDepth 100000 in
set_option maxHeartbeats 800000 in
theorem of_neg (m : Nat) (h0 : 0 < m) (hm : m ≤ 9223372036854775808) (t : Nat) (ht : t ≤ 18) (w : World) :
    Calls Tryd.prog 31 #[.int .i64 (-(m : Int)), .int .i64 t] w
      (Ret (.agg #[.int .u64 ((m * 10 ^ t / 18446744073709551616 : Nat) : Int), .int .u64 ((m * 10 ^ t % 18446744073709551616 : Nat) : Int), .bool true]) w) := by
  have HT : Hid (10 ^ t ≤ 10 ^ 18) := Nat.pow_le_pow_right (by omega) ht
  have hc : Hid (∀ w, Calls Tryd.prog 38 #[.int .u64 (m : Nat), .int .u64 (10 ^ t : Nat)] w (RetS (.tuple #[.int .u64 ((m * 10 ^ t / 18446744073709551616 : Nat) : Int), .int .u64 ((m * 10 ^ t % 18446744073709551616 : Nat) : Int)]) w)) :=
    fun w => mul64_any m (10 ^ t) (by omega) (by have := HT.out; omega) w
  generalize hA : ((m * 10 ^ t / 18446744073709551616 : Nat) : Int) = A at *
  generalize hB : ((m * 10 ^ t % 18446744073709551616 : Nat) : Int) = B at *
  clear hA hB
  have h0 : (-(m : Int) < 0) := by omega
  have hw : IntKind.u64.wrap (-IntKind.u64.wrap (-(m : Int))) = (m : Int) := by simp only [IntKind.wrap_u64]; omega
  have HW := Lib.hid hw
  clear hw
  go_enter Tryd.func31, Tryd.ntmps31
  go_wp2_with fail
  rw [HW.out]
  go_loop [6, 16] (fun p i => ∃ k x : Nat, k ≤ t ∧ i = .int .i64 k ∧ p = .int .u64 (x : Int) ∧ Hid (x = 10 ^ k)) (fun _ i => t - (intOf i).toNat)
  case atStart => exact ⟨0, 1, Nat.zero_le _, rfl, rfl, rfl⟩
  case round =>
    obtain ⟨k, x, hk, rfl, rfl, HX⟩ := hrel
    by_cases hlt : k < t
    · have hx : x ≤ 1000000000000000000 := by rw [HX.out]; have : 10 ^ k ≤ 10 ^ 18 := Nat.pow_le_pow_right (by omega) (by omega); omega
      have HN : Hid (x * 10 = 10 ^ (k + 1)) := by show _ = _; rw [HX.out, Nat.pow_succ]
      clear HX
      go_wp2_with fail
      go_round
      case rel => exact ⟨k + 1, x * 10, by omega, by go_num, congrArg (Value.int .u64) (by omega), HN⟩
      case measure => simp [intOf]; omega
    · obtain rfl : k = t := by omega
      go_wp2_with (go_at_call 38; refine (by rw [HX.out]; exact hc.out _ : Calls Tryd.prog 38 #[.int .u64 (m : Nat), .int .u64 (x : Nat)] _ _).mono ?_; rintro e w' ⟨rfl, rfl⟩)
      refine bodyPost_end (v := .agg #[.int .u64 A, .int .u64 B, .bool true]) (by simp [results, Tryd.results31, go_sem]) rfl ⟨rfl, ?_⟩
      exact (Below.refl _ _).alloc (Nat.le_refl _) _
/-- of, on either side of nought. -/
theorem of_any (n : Int) (hn : I64 n) (t : Nat) (ht : t ≤ 18) (w : World) :
    Calls Tryd.prog 31 #[.int .i64 n, .int .i64 t] w
      (Ret (.agg #[.int .u64 ((n.natAbs * 10 ^ t / 18446744073709551616 : Nat) : Int), .int .u64 ((n.natAbs * 10 ^ t % 18446744073709551616 : Nat) : Int), .bool (decide (n < 0))]) w) := by
  obtain ⟨h1, h2⟩ := hn
  by_cases h0 : n < 0
  · obtain ⟨m, rfl⟩ : ∃ m : Nat, n = -(m : Int) := ⟨n.natAbs, by omega⟩
    have := of_neg m (by omega) (by omega) t ht w
    rw [decide_eq_true h0, Int.natAbs_neg, Int.natAbs_natCast]
    exact this
  · obtain ⟨m, rfl⟩ : ∃ m : Nat, n = (m : Int) := ⟨n.natAbs, by omega⟩
    have := of_pos m (by omega) t ht w
    rw [decide_eq_false h0, Int.natAbs_natCast]
    exact this
set_option maxRecDepth 100000 in
set_option maxHeartbeats 800000 in
theorem less_any (a b c d : Nat) (x y : Bool) (w : World) :
    Calls Tryd.prog 58 #[.agg #[.int .u64 a, .int .u64 b, .bool x], .agg #[.int .u64 c, .int .u64 d, .bool y]] w
      (fun e w' => e = .returned (.bool (decide (a < c ∨ a = c ∧ b < d))) ∧ w' = (w.alloc (.cells #[.int .u64 a, .int .u64 b, .bool x] 55)).alloc (.cells #[.int .u64 c, .int .u64 d, .bool y] 55)) := by
  rcases Nat.lt_trichotomy a c with h | h | h
  · have h1 : (a : Int) < (c : Int) := by omega
    rw [decide_eq_true (Or.inl h)]
    go_enter Tryd.func58, Tryd.ntmps58
    go_wp2_with fail
    go_ret
    exact ⟨rfl, rfl⟩
  · subst h
    rw [show decide (a < a ∨ a = a ∧ b < d) = decide (b < d) from by simp]
    go_enter Tryd.func58, Tryd.ntmps58
    go_wp2_with fail
    go_ret
    exact ⟨rfl, rfl⟩
  · have h1 : ¬ ((a : Int) < (c : Int)) := by omega
    have h2 : ¬ ((a : Int) = (c : Int)) := by omega
    rw [decide_eq_false (by omega)]
    go_enter Tryd.func58, Tryd.ntmps58
    go_wp2_with fail
    go_ret
    exact ⟨rfl, rfl⟩
end Go.Proofs.YtfcbcbpnlnkpcaaDoor
/- decimal: sums of wide numbers. (Printed by a small program of mine, gen/mkplus.py.) -/
namespace Go.Proofs.YtfcbcbpnlnkpcaaDoor
set_option linter.all false
open Go.RowKit
/-- A number with a sign. -/
def sg (b : Bool) (m : Nat) : Int := if b then -(m : Int) else m
/-- A wide number's value. -/
def WideIs (v : Value) (M : Int) : Prop := ∃ (h l : Nat) (b : Bool), v = .agg #[.int .u64 h, .int .u64 l, .bool b] ∧ h < 18446744073709551616 ∧ l < 18446744073709551616 ∧ M = sg b (h * 18446744073709551616 + l)
set_option maxRecDepth 100000 in
set_option maxHeartbeats 1600000 in
theorem plus_same_false (a b c d : Nat) (ha : a < 9223372036854775808) (hb : b < 18446744073709551616) (hc : c < 9223372036854775808) (hd : d < 18446744073709551616) (w : World) :
    Calls Tryd.prog 37 #[.agg #[.int .u64 a, .int .u64 b, .bool false], .agg #[.int .u64 c, .int .u64 d, .bool false]] w
      (fun e w' => ∃ v, e = .returned v ∧ WideIs v (sg false (a * 18446744073709551616 + b) + sg false (c * 18446744073709551616 + d)) ∧ Below w.heap.size w w') := by
  obtain ⟨L, HL⟩ : ∃ L : Nat, Hid (L = (b + d + 0) % 18446744073709551616) := ⟨_, rfl⟩
  obtain ⟨C, HC⟩ : ∃ C : Nat, Hid (C = (b + d + 0) / 18446744073709551616) := ⟨_, rfl⟩
  obtain ⟨U, HU⟩ : ∃ U : Nat, Hid (U = (a + c + C) % 18446744073709551616) := ⟨_, rfl⟩
  have k1 : ∀ w : World, (callFunc 57 #[.int .u64 b, .int .u64 d, .int .u64 0]).run Tryd.prog w = .ok (.value (.tuple #[.int .u64 (L : Int), .int .u64 (C : Int)])) w := fun w => by
    rw [HL.out, HC.out]; exact add64_any b d 0 (by decide) w
  have hC : C ≤ 1 := by rw [HC.out]; omega
  have k2 : ∀ w : World, (callFunc 57 #[.int .u64 a, .int .u64 c, .int .u64 C]).run Tryd.prog w = .ok (.value (.tuple #[.int .u64 (U : Int), .int .u64 0])) w := fun w => by
    rw [HU.out, add64_any a c C hC w, show ((a + c + C) / 18446744073709551616) = 0 from by omega]; rfl
  have HB := Lib.hid (And.intro ha (And.intro hb (And.intro hc (And.intro hd hC))))
  clear ha hb hc hd hC
  go_enter Tryd.func37, Tryd.ntmps37
  go_wp2_with fail
  refine bodyPost_ret (v := .agg #[.int .u64 U, .int .u64 L, .bool false]) (by simp [results, Tryd.results37, go_sem]) rfl ⟨_, rfl, ⟨U, L, false, rfl, by rw [HU.out]; exact Nat.mod_lt _ (by decide), by rw [HL.out]; exact Nat.mod_lt _ (by decide), ?_⟩, ?_⟩
  · have h1 := HB.out; have h2 := HL.out; have h3 := HC.out; have h4 := HU.out
    simp only [sg]
    simp only [if_true, Bool.false_eq_true, if_false]; omega
  · exact (((Below.refl _ _).alloc (Nat.le_refl _) _).alloc (by simp) _).alloc (by simp; omega) _
set_option maxRecDepth 100000 in
set_option maxHeartbeats 1600000 in
theorem plus_same_true (a b c d : Nat) (ha : a < 9223372036854775808) (hb : b < 18446744073709551616) (hc : c < 9223372036854775808) (hd : d < 18446744073709551616) (w : World) :
    Calls Tryd.prog 37 #[.agg #[.int .u64 a, .int .u64 b, .bool true], .agg #[.int .u64 c, .int .u64 d, .bool true]] w
      (fun e w' => ∃ v, e = .returned v ∧ WideIs v (sg true (a * 18446744073709551616 + b) + sg true (c * 18446744073709551616 + d)) ∧ Below w.heap.size w w') := by
  obtain ⟨L, HL⟩ : ∃ L : Nat, Hid (L = (b + d + 0) % 18446744073709551616) := ⟨_, rfl⟩
  obtain ⟨C, HC⟩ : ∃ C : Nat, Hid (C = (b + d + 0) / 18446744073709551616) := ⟨_, rfl⟩
  obtain ⟨U, HU⟩ : ∃ U : Nat, Hid (U = (a + c + C) % 18446744073709551616) := ⟨_, rfl⟩
  have k1 : ∀ w : World, (callFunc 57 #[.int .u64 b, .int .u64 d, .int .u64 0]).run Tryd.prog w = .ok (.value (.tuple #[.int .u64 (L : Int), .int .u64 (C : Int)])) w := fun w => by
    rw [HL.out, HC.out]; exact add64_any b d 0 (by decide) w
  have hC : C ≤ 1 := by rw [HC.out]; omega
  have k2 : ∀ w : World, (callFunc 57 #[.int .u64 a, .int .u64 c, .int .u64 C]).run Tryd.prog w = .ok (.value (.tuple #[.int .u64 (U : Int), .int .u64 0])) w := fun w => by
    rw [HU.out, add64_any a c C hC w, show ((a + c + C) / 18446744073709551616) = 0 from by omega]; rfl
  have HB := Lib.hid (And.intro ha (And.intro hb (And.intro hc (And.intro hd hC))))
  clear ha hb hc hd hC
  go_enter Tryd.func37, Tryd.ntmps37
  go_wp2_with fail
  refine bodyPost_ret (v := .agg #[.int .u64 U, .int .u64 L, .bool true]) (by simp [results, Tryd.results37, go_sem]) rfl ⟨_, rfl, ⟨U, L, true, rfl, by rw [HU.out]; exact Nat.mod_lt _ (by decide), by rw [HL.out]; exact Nat.mod_lt _ (by decide), ?_⟩, ?_⟩
  · have h1 := HB.out; have h2 := HL.out; have h3 := HC.out; have h4 := HU.out
    simp only [sg]
    simp only [if_true, Bool.false_eq_true, if_false]; omega
  · exact (((Below.refl _ _).alloc (Nat.le_refl _) _).alloc (by simp) _).alloc (by simp; omega) _
set_option maxRecDepth 100000 in
set_option maxHeartbeats 3200000 in
theorem plus_falsetrue_lt (a b c d : Nat) (ha : a < 9223372036854775808) (hb : b < 18446744073709551616) (hc : c < 9223372036854775808) (hd : d < 18446744073709551616) (hlt : a < c ∨ a = c ∧ b < d) (w : World) :
    Calls Tryd.prog 37 #[.agg #[.int .u64 a, .int .u64 b, .bool false], .agg #[.int .u64 c, .int .u64 d, .bool true]] w
      (fun e w' => ∃ v, e = .returned v ∧ WideIs v (sg false (a * 18446744073709551616 + b) + sg true (c * 18446744073709551616 + d)) ∧ Below w.heap.size w w') := by
  obtain ⟨L, HL⟩ : ∃ L : Nat, Hid (L = (d + 18446744073709551616 - b - 0) % 18446744073709551616) := ⟨_, rfl⟩
  obtain ⟨C, HC⟩ : ∃ C : Nat, Hid (C = if d < b + 0 then 1 else 0) := ⟨_, rfl⟩
  obtain ⟨U, HU⟩ : ∃ U : Nat, Hid (U = (c + 18446744073709551616 - a - C) % 18446744073709551616) := ⟨_, rfl⟩
  obtain ⟨V, HV⟩ : ∃ V : Nat, Hid (V = if c < a + C then 1 else 0) := ⟨_, rfl⟩
  have hC : C ≤ 1 := by rw [HC.out]; split <;> omega
  have k1 : ∀ w : World, (callFunc 59 #[.int .u64 d, .int .u64 b, .int .u64 0]).run Tryd.prog w = .ok (.value (.tuple #[.int .u64 (L : Int), .int .u64 (C : Int)])) w := fun w => by
    rw [HL.out, HC.out]; exact sub64_any d b 0 (by decide) w
  have k2 : ∀ w : World, (callFunc 59 #[.int .u64 c, .int .u64 a, .int .u64 C]).run Tryd.prog w = .ok (.value (.tuple #[.int .u64 (U : Int), .int .u64 (V : Int)])) w := fun w => by
    rw [HU.out, HV.out]; exact sub64_any c a C hC w
  have HB := Lib.hid (And.intro ha (And.intro hb (And.intro hc (And.intro hd (And.intro hC hlt)))))
  have HL2 : Hid (∀ w : World, Calls Tryd.prog 58 #[.agg #[.int .u64 a, .int .u64 b, .bool false], .agg #[.int .u64 c, .int .u64 d, .bool true]] w
      (fun e w' => e = .returned (.bool true) ∧ w' = (w.alloc (.cells #[.int .u64 a, .int .u64 b, .bool false] 55)).alloc (.cells #[.int .u64 c, .int .u64 d, .bool true] 55))) := fun w => by
    have := less_any a b c d false true w
    rwa [decide_eq_true hlt] at this
  clear ha hb hc hd hC hlt
  go_enter Tryd.func37, Tryd.ntmps37
  go_wp2_with (go_at_call 58; refine (unhide HL2 _).mono ?_; rintro e w' ⟨rfl, rfl⟩)
  refine bodyPost_ret (v := .agg #[.int .u64 U, .int .u64 L, .bool true]) (by simp [results, Tryd.results37, go_sem]) rfl ⟨_, rfl, ⟨U, L, true, rfl, by rw [HU.out]; exact Nat.mod_lt _ (by decide), by rw [HL.out]; exact Nat.mod_lt _ (by decide), ?_⟩, ?_⟩
  · have h1 := HB.out; have h2 := HL.out; have h3 := HC.out; have h4 := HU.out
    simp only [sg]
    split at h3 <;> simp <;> omega
  · exact (((((Below.refl _ _).alloc (Nat.le_refl _) _).alloc (by simp) _).alloc (by simp; omega) _).alloc (by simp; omega) _).alloc (by simp; omega) _
set_option maxRecDepth 100000 in
set_option maxHeartbeats 3200000 in
theorem plus_falsetrue_ge (a b c d : Nat) (ha : a < 9223372036854775808) (hb : b < 18446744073709551616) (hc : c < 9223372036854775808) (hd : d < 18446744073709551616) (hlt : ¬ (a < c ∨ a = c ∧ b < d)) (w : World) :
    Calls Tryd.prog 37 #[.agg #[.int .u64 a, .int .u64 b, .bool false], .agg #[.int .u64 c, .int .u64 d, .bool true]] w
      (fun e w' => ∃ v, e = .returned v ∧ WideIs v (sg false (a * 18446744073709551616 + b) + sg true (c * 18446744073709551616 + d)) ∧ Below w.heap.size w w') := by
  obtain ⟨L, HL⟩ : ∃ L : Nat, Hid (L = (b + 18446744073709551616 - d - 0) % 18446744073709551616) := ⟨_, rfl⟩
  obtain ⟨C, HC⟩ : ∃ C : Nat, Hid (C = if b < d + 0 then 1 else 0) := ⟨_, rfl⟩
  obtain ⟨U, HU⟩ : ∃ U : Nat, Hid (U = (a + 18446744073709551616 - c - C) % 18446744073709551616) := ⟨_, rfl⟩
  obtain ⟨V, HV⟩ : ∃ V : Nat, Hid (V = if a < c + C then 1 else 0) := ⟨_, rfl⟩
  have hC : C ≤ 1 := by rw [HC.out]; split <;> omega
  have k1 : ∀ w : World, (callFunc 59 #[.int .u64 b, .int .u64 d, .int .u64 0]).run Tryd.prog w = .ok (.value (.tuple #[.int .u64 (L : Int), .int .u64 (C : Int)])) w := fun w => by
    rw [HL.out, HC.out]; exact sub64_any b d 0 (by decide) w
  have k2 : ∀ w : World, (callFunc 59 #[.int .u64 a, .int .u64 c, .int .u64 C]).run Tryd.prog w = .ok (.value (.tuple #[.int .u64 (U : Int), .int .u64 (V : Int)])) w := fun w => by
    rw [HU.out, HV.out]; exact sub64_any a c C hC w
  have HB := Lib.hid (And.intro ha (And.intro hb (And.intro hc (And.intro hd (And.intro hC hlt)))))
  have HL2 : Hid (∀ w : World, Calls Tryd.prog 58 #[.agg #[.int .u64 a, .int .u64 b, .bool false], .agg #[.int .u64 c, .int .u64 d, .bool true]] w
      (fun e w' => e = .returned (.bool false) ∧ w' = (w.alloc (.cells #[.int .u64 a, .int .u64 b, .bool false] 55)).alloc (.cells #[.int .u64 c, .int .u64 d, .bool true] 55))) := fun w => by
    have := less_any a b c d false true w
    rwa [decide_eq_false hlt] at this
  clear ha hb hc hd hC hlt
  go_enter Tryd.func37, Tryd.ntmps37
  go_wp2_with (go_at_call 58; refine (unhide HL2 _).mono ?_; rintro e w' ⟨rfl, rfl⟩)
  refine bodyPost_ret (v := .agg #[.int .u64 U, .int .u64 L, .bool false]) (by simp [results, Tryd.results37, go_sem]) rfl ⟨_, rfl, ⟨U, L, false, rfl, by rw [HU.out]; exact Nat.mod_lt _ (by decide), by rw [HL.out]; exact Nat.mod_lt _ (by decide), ?_⟩, ?_⟩
  · have h1 := HB.out; have h2 := HL.out; have h3 := HC.out; have h4 := HU.out
    simp only [sg]
    split at h3 <;> simp <;> omega
  · exact (((((Below.refl _ _).alloc (Nat.le_refl _) _).alloc (by simp) _).alloc (by simp; omega) _).alloc (by simp; omega) _).alloc (by simp; omega) _
set_option maxRecDepth 100000 in
set_option maxHeartbeats 3200000 in
theorem plus_truefalse_lt (a b c d : Nat) (ha : a < 9223372036854775808) (hb : b < 18446744073709551616) (hc : c < 9223372036854775808) (hd : d < 18446744073709551616) (hlt : a < c ∨ a = c ∧ b < d) (w : World) :
    Calls Tryd.prog 37 #[.agg #[.int .u64 a, .int .u64 b, .bool true], .agg #[.int .u64 c, .int .u64 d, .bool false]] w
      (fun e w' => ∃ v, e = .returned v ∧ WideIs v (sg true (a * 18446744073709551616 + b) + sg false (c * 18446744073709551616 + d)) ∧ Below w.heap.size w w') := by
  obtain ⟨L, HL⟩ : ∃ L : Nat, Hid (L = (d + 18446744073709551616 - b - 0) % 18446744073709551616) := ⟨_, rfl⟩
  obtain ⟨C, HC⟩ : ∃ C : Nat, Hid (C = if d < b + 0 then 1 else 0) := ⟨_, rfl⟩
  obtain ⟨U, HU⟩ : ∃ U : Nat, Hid (U = (c + 18446744073709551616 - a - C) % 18446744073709551616) := ⟨_, rfl⟩
  obtain ⟨V, HV⟩ : ∃ V : Nat, Hid (V = if c < a + C then 1 else 0) := ⟨_, rfl⟩
  have hC : C ≤ 1 := by rw [HC.out]; split <;> omega
  have k1 : ∀ w : World, (callFunc 59 #[.int .u64 d, .int .u64 b, .int .u64 0]).run Tryd.prog w = .ok (.value (.tuple #[.int .u64 (L : Int), .int .u64 (C : Int)])) w := fun w => by
    rw [HL.out, HC.out]; exact sub64_any d b 0 (by decide) w
  have k2 : ∀ w : World, (callFunc 59 #[.int .u64 c, .int .u64 a, .int .u64 C]).run Tryd.prog w = .ok (.value (.tuple #[.int .u64 (U : Int), .int .u64 (V : Int)])) w := fun w => by
    rw [HU.out, HV.out]; exact sub64_any c a C hC w
  have HB := Lib.hid (And.intro ha (And.intro hb (And.intro hc (And.intro hd (And.intro hC hlt)))))
  have HL2 : Hid (∀ w : World, Calls Tryd.prog 58 #[.agg #[.int .u64 a, .int .u64 b, .bool true], .agg #[.int .u64 c, .int .u64 d, .bool false]] w
      (fun e w' => e = .returned (.bool true) ∧ w' = (w.alloc (.cells #[.int .u64 a, .int .u64 b, .bool true] 55)).alloc (.cells #[.int .u64 c, .int .u64 d, .bool false] 55))) := fun w => by
    have := less_any a b c d true false w
    rwa [decide_eq_true hlt] at this
  clear ha hb hc hd hC hlt
  go_enter Tryd.func37, Tryd.ntmps37
  go_wp2_with (go_at_call 58; refine (unhide HL2 _).mono ?_; rintro e w' ⟨rfl, rfl⟩)
  refine bodyPost_ret (v := .agg #[.int .u64 U, .int .u64 L, .bool false]) (by simp [results, Tryd.results37, go_sem]) rfl ⟨_, rfl, ⟨U, L, false, rfl, by rw [HU.out]; exact Nat.mod_lt _ (by decide), by rw [HL.out]; exact Nat.mod_lt _ (by decide), ?_⟩, ?_⟩
  · have h1 := HB.out; have h2 := HL.out; have h3 := HC.out; have h4 := HU.out
    simp only [sg]
    split at h3 <;> simp <;> omega
  · exact (((((Below.refl _ _).alloc (Nat.le_refl _) _).alloc (by simp) _).alloc (by simp; omega) _).alloc (by simp; omega) _).alloc (by simp; omega) _
set_option maxRecDepth 100000 in
set_option maxHeartbeats 3200000 in
theorem plus_truefalse_ge (a b c d : Nat) (ha : a < 9223372036854775808) (hb : b < 18446744073709551616) (hc : c < 9223372036854775808) (hd : d < 18446744073709551616) (hlt : ¬ (a < c ∨ a = c ∧ b < d)) (w : World) :
    Calls Tryd.prog 37 #[.agg #[.int .u64 a, .int .u64 b, .bool true], .agg #[.int .u64 c, .int .u64 d, .bool false]] w
      (fun e w' => ∃ v, e = .returned v ∧ WideIs v (sg true (a * 18446744073709551616 + b) + sg false (c * 18446744073709551616 + d)) ∧ Below w.heap.size w w') := by
  obtain ⟨L, HL⟩ : ∃ L : Nat, Hid (L = (b + 18446744073709551616 - d - 0) % 18446744073709551616) := ⟨_, rfl⟩
  obtain ⟨C, HC⟩ : ∃ C : Nat, Hid (C = if b < d + 0 then 1 else 0) := ⟨_, rfl⟩
  obtain ⟨U, HU⟩ : ∃ U : Nat, Hid (U = (a + 18446744073709551616 - c - C) % 18446744073709551616) := ⟨_, rfl⟩
  obtain ⟨V, HV⟩ : ∃ V : Nat, Hid (V = if a < c + C then 1 else 0) := ⟨_, rfl⟩
  have hC : C ≤ 1 := by rw [HC.out]; split <;> omega
  have k1 : ∀ w : World, (callFunc 59 #[.int .u64 b, .int .u64 d, .int .u64 0]).run Tryd.prog w = .ok (.value (.tuple #[.int .u64 (L : Int), .int .u64 (C : Int)])) w := fun w => by
    rw [HL.out, HC.out]; exact sub64_any b d 0 (by decide) w
  have k2 : ∀ w : World, (callFunc 59 #[.int .u64 a, .int .u64 c, .int .u64 C]).run Tryd.prog w = .ok (.value (.tuple #[.int .u64 (U : Int), .int .u64 (V : Int)])) w := fun w => by
    rw [HU.out, HV.out]; exact sub64_any a c C hC w
  have HB := Lib.hid (And.intro ha (And.intro hb (And.intro hc (And.intro hd (And.intro hC hlt)))))
  have HL2 : Hid (∀ w : World, Calls Tryd.prog 58 #[.agg #[.int .u64 a, .int .u64 b, .bool true], .agg #[.int .u64 c, .int .u64 d, .bool false]] w
      (fun e w' => e = .returned (.bool false) ∧ w' = (w.alloc (.cells #[.int .u64 a, .int .u64 b, .bool true] 55)).alloc (.cells #[.int .u64 c, .int .u64 d, .bool false] 55))) := fun w => by
    have := less_any a b c d true false w
    rwa [decide_eq_false hlt] at this
  clear ha hb hc hd hC hlt
  go_enter Tryd.func37, Tryd.ntmps37
  go_wp2_with (go_at_call 58; refine (unhide HL2 _).mono ?_; rintro e w' ⟨rfl, rfl⟩)
  refine bodyPost_ret (v := .agg #[.int .u64 U, .int .u64 L, .bool true]) (by simp [results, Tryd.results37, go_sem]) rfl ⟨_, rfl, ⟨U, L, true, rfl, by rw [HU.out]; exact Nat.mod_lt _ (by decide), by rw [HL.out]; exact Nat.mod_lt _ (by decide), ?_⟩, ?_⟩
  · have h1 := HB.out; have h2 := HL.out; have h3 := HC.out; have h4 := HU.out
    simp only [sg]
    split at h3 <;> simp <;> omega
  · exact (((((Below.refl _ _).alloc (Nat.le_refl _) _).alloc (by simp) _).alloc (by simp; omega) _).alloc (by simp; omega) _).alloc (by simp; omega) _
theorem plus_any (v u : Value) (M N : Int) (hv : WideIs v M) (hu : WideIs u N) (h1 : M.natAbs < 170141183460469231731687303715884105728) (h2 : N.natAbs < 170141183460469231731687303715884105728) (w : World) :
    Calls Tryd.prog 37 #[v, u] w (fun e w' => ∃ v, e = .returned v ∧ WideIs v (M + N) ∧ Below w.heap.size w w') := by
  obtain ⟨a, b, x, rfl, a1, b1, rfl⟩ := hv
  obtain ⟨c, d, y, rfl, c1, d1, rfl⟩ := hu
  have sgn : ∀ (x : Bool) (m : Nat), (sg x m).natAbs = m := fun x m => by cases x <;> simp [sg]
  rw [sgn] at h1 h2
  have ha : a < 9223372036854775808 := by omega
  have hc : c < 9223372036854775808 := by omega
  cases x <;> cases y
  · exact plus_same_false a b c d ha b1 hc d1 w
  · by_cases hl : a < c ∨ a = c ∧ b < d
    · exact plus_falsetrue_lt a b c d ha b1 hc d1 hl w
    · exact plus_falsetrue_ge a b c d ha b1 hc d1 hl w
  · by_cases hl : a < c ∨ a = c ∧ b < d
    · exact plus_truefalse_lt a b c d ha b1 hc d1 hl w
    · exact plus_truefalse_ge a b c d ha b1 hc d1 hl w
  · exact plus_same_true a b c d ha b1 hc d1 w
end Go.Proofs.YtfcbcbpnlnkpcaaDoor

/- scrivenerref6: sums of wide numbers. (Printed by a small program of mine, gen/mkplus.py.) -/
import Derived.Test.YtfcbcbpnlnkpcaaDoorQDp
namespace Go.Proofs.YtfcbcbpnlnkpcaaDoor
set_option linter.all false
open Go.RowKit
set_option maxRecDepth 100000 in
set_option maxHeartbeats 1600000 in
theorem radd_same_false (a b c d : Nat) (ha : a < 9223372036854775808) (hb : b < 18446744073709551616) (hc : c < 9223372036854775808) (hd : d < 18446744073709551616) (w : World) :
    Calls Tryd.prog 42 #[.agg #[.int .u64 a, .int .u64 b, .bool false], .agg #[.int .u64 c, .int .u64 d, .bool false]] w
      (fun e w' => ∃ v, e = .returned (.tuple #[v, .bool true]) ∧ WideIs v (sg false (a * 18446744073709551616 + b) + sg false (c * 18446744073709551616 + d)) ∧ Below w.heap.size w w') := by
  obtain ⟨L, HL⟩ : ∃ L : Nat, Hid (L = (b + d + 0) % 18446744073709551616) := ⟨_, rfl⟩
  obtain ⟨C, HC⟩ : ∃ C : Nat, Hid (C = (b + d + 0) / 18446744073709551616) := ⟨_, rfl⟩
  obtain ⟨U, HU⟩ : ∃ U : Nat, Hid (U = (a + c + C) % 18446744073709551616) := ⟨_, rfl⟩
  have k1 : ∀ w : World, (callFunc 57 #[.int .u64 b, .int .u64 d, .int .u64 0]).run Tryd.prog w = .ok (.value (.tuple #[.int .u64 (L : Int), .int .u64 (C : Int)])) w := fun w => by
    rw [HL.out, HC.out]; exact add64_any b d 0 (by decide) w
  have hC : C ≤ 1 := by rw [HC.out]; omega
  have k2 : ∀ w : World, (callFunc 57 #[.int .u64 a, .int .u64 c, .int .u64 C]).run Tryd.prog w = .ok (.value (.tuple #[.int .u64 (U : Int), .int .u64 0])) w := fun w => by
    rw [HU.out, add64_any a c C hC w, show ((a + c + C) / 18446744073709551616) = 0 from by omega]; rfl
  have HB := Lib.hid (And.intro ha (And.intro hb (And.intro hc (And.intro hd hC))))
  clear ha hb hc hd hC
  go_enter Tryd.func42, Tryd.ntmps42
  go_wp2_with fail
  refine bodyPost_ret (v := .tuple #[.agg #[.int .u64 U, .int .u64 L, .bool false], .bool true]) (by simp [results, Tryd.results42, go_sem]) rfl ⟨_, rfl, ⟨U, L, false, rfl, by rw [HU.out]; exact Nat.mod_lt _ (by decide), by rw [HL.out]; exact Nat.mod_lt _ (by decide), ?_⟩, ?_⟩
  · have h1 := HB.out; have h2 := HL.out; have h3 := HC.out; have h4 := HU.out
    simp only [sg]
    simp only [if_true, Bool.false_eq_true, if_false]; omega
  · exact (((Below.refl _ _).alloc (Nat.le_refl _) _).alloc (by simp) _).alloc (by simp; omega) _
set_option maxRecDepth 100000 in
set_option maxHeartbeats 1600000 in
theorem radd_same_true (a b c d : Nat) (ha : a < 9223372036854775808) (hb : b < 18446744073709551616) (hc : c < 9223372036854775808) (hd : d < 18446744073709551616) (w : World) :
    Calls Tryd.prog 42 #[.agg #[.int .u64 a, .int .u64 b, .bool true], .agg #[.int .u64 c, .int .u64 d, .bool true]] w
      (fun e w' => ∃ v, e = .returned (.tuple #[v, .bool true]) ∧ WideIs v (sg true (a * 18446744073709551616 + b) + sg true (c * 18446744073709551616 + d)) ∧ Below w.heap.size w w') := by
  obtain ⟨L, HL⟩ : ∃ L : Nat, Hid (L = (b + d + 0) % 18446744073709551616) := ⟨_, rfl⟩
  obtain ⟨C, HC⟩ : ∃ C : Nat, Hid (C = (b + d + 0) / 18446744073709551616) := ⟨_, rfl⟩
  obtain ⟨U, HU⟩ : ∃ U : Nat, Hid (U = (a + c + C) % 18446744073709551616) := ⟨_, rfl⟩
  have k1 : ∀ w : World, (callFunc 57 #[.int .u64 b, .int .u64 d, .int .u64 0]).run Tryd.prog w = .ok (.value (.tuple #[.int .u64 (L : Int), .int .u64 (C : Int)])) w := fun w => by
    rw [HL.out, HC.out]; exact add64_any b d 0 (by decide) w
  have hC : C ≤ 1 := by rw [HC.out]; omega
  have k2 : ∀ w : World, (callFunc 57 #[.int .u64 a, .int .u64 c, .int .u64 C]).run Tryd.prog w = .ok (.value (.tuple #[.int .u64 (U : Int), .int .u64 0])) w := fun w => by
    rw [HU.out, add64_any a c C hC w, show ((a + c + C) / 18446744073709551616) = 0 from by omega]; rfl
  have HB := Lib.hid (And.intro ha (And.intro hb (And.intro hc (And.intro hd hC))))
  clear ha hb hc hd hC
  go_enter Tryd.func42, Tryd.ntmps42
  go_wp2_with fail
  refine bodyPost_ret (v := .tuple #[.agg #[.int .u64 U, .int .u64 L, .bool true], .bool true]) (by simp [results, Tryd.results42, go_sem]) rfl ⟨_, rfl, ⟨U, L, true, rfl, by rw [HU.out]; exact Nat.mod_lt _ (by decide), by rw [HL.out]; exact Nat.mod_lt _ (by decide), ?_⟩, ?_⟩
  · have h1 := HB.out; have h2 := HL.out; have h3 := HC.out; have h4 := HU.out
    simp only [sg]
    simp only [if_true, Bool.false_eq_true, if_false]; omega
  · exact (((Below.refl _ _).alloc (Nat.le_refl _) _).alloc (by simp) _).alloc (by simp; omega) _
set_option maxRecDepth 100000 in
set_option maxHeartbeats 3200000 in
theorem radd_falsetrue_lt (a b c d : Nat) (ha : a < 9223372036854775808) (hb : b < 18446744073709551616) (hc : c < 9223372036854775808) (hd : d < 18446744073709551616) (hlt : a < c ∨ a = c ∧ b < d) (w : World) :
    Calls Tryd.prog 42 #[.agg #[.int .u64 a, .int .u64 b, .bool false], .agg #[.int .u64 c, .int .u64 d, .bool true]] w
      (fun e w' => ∃ v, e = .returned (.tuple #[v, .bool true]) ∧ WideIs v (sg false (a * 18446744073709551616 + b) + sg true (c * 18446744073709551616 + d)) ∧ Below w.heap.size w w') := by
  obtain ⟨L, HL⟩ : ∃ L : Nat, Hid (L = (d + 18446744073709551616 - b - 0) % 18446744073709551616) := ⟨_, rfl⟩
  obtain ⟨C, HC⟩ : ∃ C : Nat, Hid (C = if d < b + 0 then 1 else 0) := ⟨_, rfl⟩
  obtain ⟨U, HU⟩ : ∃ U : Nat, Hid (U = (c + 18446744073709551616 - a - C) % 18446744073709551616) := ⟨_, rfl⟩
  obtain ⟨V, HV⟩ : ∃ V : Nat, Hid (V = if c < a + C then 1 else 0) := ⟨_, rfl⟩
  have hC : C ≤ 1 := by rw [HC.out]; split <;> omega
  have k1 : ∀ w : World, (callFunc 59 #[.int .u64 d, .int .u64 b, .int .u64 0]).run Tryd.prog w = .ok (.value (.tuple #[.int .u64 (L : Int), .int .u64 (C : Int)])) w := fun w => by
    rw [HL.out, HC.out]; exact sub64_any d b 0 (by decide) w
  have k2 : ∀ w : World, (callFunc 59 #[.int .u64 c, .int .u64 a, .int .u64 C]).run Tryd.prog w = .ok (.value (.tuple #[.int .u64 (U : Int), .int .u64 (V : Int)])) w := fun w => by
    rw [HU.out, HV.out]; exact sub64_any c a C hC w
  have HB := Lib.hid (And.intro ha (And.intro hb (And.intro hc (And.intro hd (And.intro hC hlt)))))
  clear ha hb hc hd hC
  rcases Nat.lt_trichotomy a c with hac | hac | hac
  · have q1 : ((a : Int) < (c : Int)) := by omega
    clear hlt
    go_enter Tryd.func42, Tryd.ntmps42
    go_wp2_with fail
    refine bodyPost_ret (v := .tuple #[.agg #[.int .u64 U, .int .u64 L, .bool true], .bool true]) (by simp [results, Tryd.results42, go_sem]) rfl ⟨_, rfl, ⟨U, L, true, rfl, by rw [HU.out]; exact Nat.mod_lt _ (by decide), by rw [HL.out]; exact Nat.mod_lt _ (by decide), ?_⟩, ?_⟩
    · have h1 := HB.out; have h2 := HL.out; have h3 := HC.out; have h4 := HU.out
      simp only [sg]
      split at h3 <;> simp <;> omega
    · exact (((Below.refl _ _).alloc (Nat.le_refl _) _).alloc (by simp) _).alloc (by simp; omega) _
  · subst hac
    have q1 : ((b : Int) < (d : Int)) := by omega
    clear hlt
    go_enter Tryd.func42, Tryd.ntmps42
    go_wp2_with fail
    refine bodyPost_ret (v := .tuple #[.agg #[.int .u64 U, .int .u64 L, .bool true], .bool true]) (by simp [results, Tryd.results42, go_sem]) rfl ⟨_, rfl, ⟨U, L, true, rfl, by rw [HU.out]; exact Nat.mod_lt _ (by decide), by rw [HL.out]; exact Nat.mod_lt _ (by decide), ?_⟩, ?_⟩
    · have h1 := HB.out; have h2 := HL.out; have h3 := HC.out; have h4 := HU.out
      simp only [sg]
      split at h3 <;> simp <;> omega
    · exact (((Below.refl _ _).alloc (Nat.le_refl _) _).alloc (by simp) _).alloc (by simp; omega) _
  · exfalso; omega
set_option maxRecDepth 100000 in
set_option maxHeartbeats 3200000 in
theorem radd_falsetrue_ge (a b c d : Nat) (ha : a < 9223372036854775808) (hb : b < 18446744073709551616) (hc : c < 9223372036854775808) (hd : d < 18446744073709551616) (hlt : ¬ (a < c ∨ a = c ∧ b < d)) (w : World) :
    Calls Tryd.prog 42 #[.agg #[.int .u64 a, .int .u64 b, .bool false], .agg #[.int .u64 c, .int .u64 d, .bool true]] w
      (fun e w' => ∃ v, e = .returned (.tuple #[v, .bool true]) ∧ WideIs v (sg false (a * 18446744073709551616 + b) + sg true (c * 18446744073709551616 + d)) ∧ Below w.heap.size w w') := by
  obtain ⟨L, HL⟩ : ∃ L : Nat, Hid (L = (b + 18446744073709551616 - d - 0) % 18446744073709551616) := ⟨_, rfl⟩
  obtain ⟨C, HC⟩ : ∃ C : Nat, Hid (C = if b < d + 0 then 1 else 0) := ⟨_, rfl⟩
  obtain ⟨U, HU⟩ : ∃ U : Nat, Hid (U = (a + 18446744073709551616 - c - C) % 18446744073709551616) := ⟨_, rfl⟩
  obtain ⟨V, HV⟩ : ∃ V : Nat, Hid (V = if a < c + C then 1 else 0) := ⟨_, rfl⟩
  have hC : C ≤ 1 := by rw [HC.out]; split <;> omega
  have k1 : ∀ w : World, (callFunc 59 #[.int .u64 b, .int .u64 d, .int .u64 0]).run Tryd.prog w = .ok (.value (.tuple #[.int .u64 (L : Int), .int .u64 (C : Int)])) w := fun w => by
    rw [HL.out, HC.out]; exact sub64_any b d 0 (by decide) w
  have k2 : ∀ w : World, (callFunc 59 #[.int .u64 a, .int .u64 c, .int .u64 C]).run Tryd.prog w = .ok (.value (.tuple #[.int .u64 (U : Int), .int .u64 (V : Int)])) w := fun w => by
    rw [HU.out, HV.out]; exact sub64_any a c C hC w
  have HB := Lib.hid (And.intro ha (And.intro hb (And.intro hc (And.intro hd (And.intro hC hlt)))))
  clear ha hb hc hd hC
  rcases Nat.lt_trichotomy a c with hac | hac | hac
  · exfalso; omega
  · subst hac
    have q1 : ¬ ((b : Int) < (d : Int)) := by omega
    clear hlt
    go_enter Tryd.func42, Tryd.ntmps42
    go_wp2_with fail
    refine bodyPost_ret (v := .tuple #[.agg #[.int .u64 U, .int .u64 L, .bool false], .bool true]) (by simp [results, Tryd.results42, go_sem]) rfl ⟨_, rfl, ⟨U, L, false, rfl, by rw [HU.out]; exact Nat.mod_lt _ (by decide), by rw [HL.out]; exact Nat.mod_lt _ (by decide), ?_⟩, ?_⟩
    · have h1 := HB.out; have h2 := HL.out; have h3 := HC.out; have h4 := HU.out
      simp only [sg]
      split at h3 <;> simp <;> omega
    · exact (((Below.refl _ _).alloc (Nat.le_refl _) _).alloc (by simp) _).alloc (by simp; omega) _
  · have q1 : ¬ ((a : Int) < (c : Int)) := by omega
    have q2 : ¬ ((a : Int) = (c : Int)) := by omega
    clear hlt
    go_enter Tryd.func42, Tryd.ntmps42
    go_wp2_with fail
    refine bodyPost_ret (v := .tuple #[.agg #[.int .u64 U, .int .u64 L, .bool false], .bool true]) (by simp [results, Tryd.results42, go_sem]) rfl ⟨_, rfl, ⟨U, L, false, rfl, by rw [HU.out]; exact Nat.mod_lt _ (by decide), by rw [HL.out]; exact Nat.mod_lt _ (by decide), ?_⟩, ?_⟩
    · have h1 := HB.out; have h2 := HL.out; have h3 := HC.out; have h4 := HU.out
      simp only [sg]
      split at h3 <;> simp <;> omega
    · exact (((Below.refl _ _).alloc (Nat.le_refl _) _).alloc (by simp) _).alloc (by simp; omega) _
set_option maxRecDepth 100000 in
set_option maxHeartbeats 3200000 in
theorem radd_truefalse_lt (a b c d : Nat) (ha : a < 9223372036854775808) (hb : b < 18446744073709551616) (hc : c < 9223372036854775808) (hd : d < 18446744073709551616) (hlt : a < c ∨ a = c ∧ b < d) (w : World) :
    Calls Tryd.prog 42 #[.agg #[.int .u64 a, .int .u64 b, .bool true], .agg #[.int .u64 c, .int .u64 d, .bool false]] w
      (fun e w' => ∃ v, e = .returned (.tuple #[v, .bool true]) ∧ WideIs v (sg true (a * 18446744073709551616 + b) + sg false (c * 18446744073709551616 + d)) ∧ Below w.heap.size w w') := by
  obtain ⟨L, HL⟩ : ∃ L : Nat, Hid (L = (d + 18446744073709551616 - b - 0) % 18446744073709551616) := ⟨_, rfl⟩
  obtain ⟨C, HC⟩ : ∃ C : Nat, Hid (C = if d < b + 0 then 1 else 0) := ⟨_, rfl⟩
  obtain ⟨U, HU⟩ : ∃ U : Nat, Hid (U = (c + 18446744073709551616 - a - C) % 18446744073709551616) := ⟨_, rfl⟩
  obtain ⟨V, HV⟩ : ∃ V : Nat, Hid (V = if c < a + C then 1 else 0) := ⟨_, rfl⟩
  have hC : C ≤ 1 := by rw [HC.out]; split <;> omega
  have k1 : ∀ w : World, (callFunc 59 #[.int .u64 d, .int .u64 b, .int .u64 0]).run Tryd.prog w = .ok (.value (.tuple #[.int .u64 (L : Int), .int .u64 (C : Int)])) w := fun w => by
    rw [HL.out, HC.out]; exact sub64_any d b 0 (by decide) w
  have k2 : ∀ w : World, (callFunc 59 #[.int .u64 c, .int .u64 a, .int .u64 C]).run Tryd.prog w = .ok (.value (.tuple #[.int .u64 (U : Int), .int .u64 (V : Int)])) w := fun w => by
    rw [HU.out, HV.out]; exact sub64_any c a C hC w
  have HB := Lib.hid (And.intro ha (And.intro hb (And.intro hc (And.intro hd (And.intro hC hlt)))))
  clear ha hb hc hd hC
  rcases Nat.lt_trichotomy a c with hac | hac | hac
  · have q1 : ((a : Int) < (c : Int)) := by omega
    clear hlt
    go_enter Tryd.func42, Tryd.ntmps42
    go_wp2_with fail
    refine bodyPost_ret (v := .tuple #[.agg #[.int .u64 U, .int .u64 L, .bool false], .bool true]) (by simp [results, Tryd.results42, go_sem]) rfl ⟨_, rfl, ⟨U, L, false, rfl, by rw [HU.out]; exact Nat.mod_lt _ (by decide), by rw [HL.out]; exact Nat.mod_lt _ (by decide), ?_⟩, ?_⟩
    · have h1 := HB.out; have h2 := HL.out; have h3 := HC.out; have h4 := HU.out
      simp only [sg]
      split at h3 <;> simp <;> omega
    · exact (((Below.refl _ _).alloc (Nat.le_refl _) _).alloc (by simp) _).alloc (by simp; omega) _
  · subst hac
    have q1 : ((b : Int) < (d : Int)) := by omega
    clear hlt
    go_enter Tryd.func42, Tryd.ntmps42
    go_wp2_with fail
    refine bodyPost_ret (v := .tuple #[.agg #[.int .u64 U, .int .u64 L, .bool false], .bool true]) (by simp [results, Tryd.results42, go_sem]) rfl ⟨_, rfl, ⟨U, L, false, rfl, by rw [HU.out]; exact Nat.mod_lt _ (by decide), by rw [HL.out]; exact Nat.mod_lt _ (by decide), ?_⟩, ?_⟩
    · have h1 := HB.out; have h2 := HL.out; have h3 := HC.out; have h4 := HU.out
      simp only [sg]
      split at h3 <;> simp <;> omega
    · exact (((Below.refl _ _).alloc (Nat.le_refl _) _).alloc (by simp) _).alloc (by simp; omega) _
  · exfalso; omega
set_option maxRecDepth 100000 in
set_option maxHeartbeats 3200000 in
theorem radd_truefalse_ge (a b c d : Nat) (ha : a < 9223372036854775808) (hb : b < 18446744073709551616) (hc : c < 9223372036854775808) (hd : d < 18446744073709551616) (hlt : ¬ (a < c ∨ a = c ∧ b < d)) (w : World) :
    Calls Tryd.prog 42 #[.agg #[.int .u64 a, .int .u64 b, .bool true], .agg #[.int .u64 c, .int .u64 d, .bool false]] w
      (fun e w' => ∃ v, e = .returned (.tuple #[v, .bool true]) ∧ WideIs v (sg true (a * 18446744073709551616 + b) + sg false (c * 18446744073709551616 + d)) ∧ Below w.heap.size w w') := by
  obtain ⟨L, HL⟩ : ∃ L : Nat, Hid (L = (b + 18446744073709551616 - d - 0) % 18446744073709551616) := ⟨_, rfl⟩
  obtain ⟨C, HC⟩ : ∃ C : Nat, Hid (C = if b < d + 0 then 1 else 0) := ⟨_, rfl⟩
  obtain ⟨U, HU⟩ : ∃ U : Nat, Hid (U = (a + 18446744073709551616 - c - C) % 18446744073709551616) := ⟨_, rfl⟩
  obtain ⟨V, HV⟩ : ∃ V : Nat, Hid (V = if a < c + C then 1 else 0) := ⟨_, rfl⟩
  have hC : C ≤ 1 := by rw [HC.out]; split <;> omega
  have k1 : ∀ w : World, (callFunc 59 #[.int .u64 b, .int .u64 d, .int .u64 0]).run Tryd.prog w = .ok (.value (.tuple #[.int .u64 (L : Int), .int .u64 (C : Int)])) w := fun w => by
    rw [HL.out, HC.out]; exact sub64_any b d 0 (by decide) w
  have k2 : ∀ w : World, (callFunc 59 #[.int .u64 a, .int .u64 c, .int .u64 C]).run Tryd.prog w = .ok (.value (.tuple #[.int .u64 (U : Int), .int .u64 (V : Int)])) w := fun w => by
    rw [HU.out, HV.out]; exact sub64_any a c C hC w
  have HB := Lib.hid (And.intro ha (And.intro hb (And.intro hc (And.intro hd (And.intro hC hlt)))))
  clear ha hb hc hd hC
  rcases Nat.lt_trichotomy a c with hac | hac | hac
  · exfalso; omega
  · subst hac
    have q1 : ¬ ((b : Int) < (d : Int)) := by omega
    clear hlt
    go_enter Tryd.func42, Tryd.ntmps42
    go_wp2_with fail
    refine bodyPost_ret (v := .tuple #[.agg #[.int .u64 U, .int .u64 L, .bool true], .bool true]) (by simp [results, Tryd.results42, go_sem]) rfl ⟨_, rfl, ⟨U, L, true, rfl, by rw [HU.out]; exact Nat.mod_lt _ (by decide), by rw [HL.out]; exact Nat.mod_lt _ (by decide), ?_⟩, ?_⟩
    · have h1 := HB.out; have h2 := HL.out; have h3 := HC.out; have h4 := HU.out
      simp only [sg]
      split at h3 <;> simp <;> omega
    · exact (((Below.refl _ _).alloc (Nat.le_refl _) _).alloc (by simp) _).alloc (by simp; omega) _
  · have q1 : ¬ ((a : Int) < (c : Int)) := by omega
    have q2 : ¬ ((a : Int) = (c : Int)) := by omega
    clear hlt
    go_enter Tryd.func42, Tryd.ntmps42
    go_wp2_with fail
    refine bodyPost_ret (v := .tuple #[.agg #[.int .u64 U, .int .u64 L, .bool true], .bool true]) (by simp [results, Tryd.results42, go_sem]) rfl ⟨_, rfl, ⟨U, L, true, rfl, by rw [HU.out]; exact Nat.mod_lt _ (by decide), by rw [HL.out]; exact Nat.mod_lt _ (by decide), ?_⟩, ?_⟩
    · have h1 := HB.out; have h2 := HL.out; have h3 := HC.out; have h4 := HU.out
      simp only [sg]
      split at h3 <;> simp <;> omega
    · exact (((Below.refl _ _).alloc (Nat.le_refl _) _).alloc (by simp) _).alloc (by simp; omega) _
theorem radd_any (v u : Value) (M N : Int) (hv : WideIs v M) (hu : WideIs u N) (h1 : M.natAbs < 170141183460469231731687303715884105728) (h2 : N.natAbs < 170141183460469231731687303715884105728) (w : World) :
    Calls Tryd.prog 42 #[v, u] w (fun e w' => ∃ v, e = .returned (.tuple #[v, .bool true]) ∧ WideIs v (M + N) ∧ Below w.heap.size w w') := by
  obtain ⟨a, b, x, rfl, a1, b1, rfl⟩ := hv
  obtain ⟨c, d, y, rfl, c1, d1, rfl⟩ := hu
  have sgn : ∀ (x : Bool) (m : Nat), (sg x m).natAbs = m := fun x m => by cases x <;> simp [sg]
  rw [sgn] at h1 h2
  have ha : a < 9223372036854775808 := by omega
  have hc : c < 9223372036854775808 := by omega
  cases x <;> cases y
  · exact radd_same_false a b c d ha b1 hc d1 w
  · by_cases hl : a < c ∨ a = c ∧ b < d
    · exact radd_falsetrue_lt a b c d ha b1 hc d1 hl w
    · exact radd_falsetrue_ge a b c d ha b1 hc d1 hl w
  · by_cases hl : a < c ∨ a = c ∧ b < d
    · exact radd_truefalse_lt a b c d ha b1 hc d1 hl w
    · exact radd_truefalse_ge a b c d ha b1 hc d1 hl w
  · exact radd_same_true a b c d ha b1 hc d1 w
end Go.Proofs.YtfcbcbpnlnkpcaaDoor

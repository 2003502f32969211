/- Wide numbers: a digit more. (Printed by gen/mkwid.py.) -/
import Derived.Test.YtfcbcbpnlnkpcaaDoorQRdec
namespace Go.Proofs.YtfcbcbpnlnkpcaaDoor
set_option linter.all false
open Go.RowKit

set_option maxRecDepth 100000 in
set_option maxHeartbeats 1600000 in
theorem plus_dig_false (a b d : Nat) (ha : a < 18446744073709551615) (hb : b < 18446744073709551616) (hd : d < 10) (w : World) :
    Calls Tryd.prog 37 #[.agg #[.int .u64 a, .int .u64 b, .bool false], .agg #[.int .u64 0, .int .u64 d, .bool false]] w (fun e w' => ∃ (U L : Nat), e = .returned (.agg #[.int .u64 U, .int .u64 L, .bool false]) ∧ U < 18446744073709551616 ∧ L < 18446744073709551616 ∧ U * 18446744073709551616 + L = a * 18446744073709551616 + b + d ∧ Below w.heap.size w w') := by
  obtain ⟨L, HL⟩ : ∃ L : Nat, Hid (L = (b + d + 0) % 18446744073709551616) := ⟨_, rfl⟩
  obtain ⟨C, HC⟩ : ∃ C : Nat, Hid (C = (b + d + 0) / 18446744073709551616) := ⟨_, rfl⟩
  obtain ⟨U, HU⟩ : ∃ U : Nat, Hid (U = (a + 0 + C) % 18446744073709551616) := ⟨_, rfl⟩
  obtain ⟨E, HE⟩ : ∃ E : Nat, Hid (E = (a + 0 + C) / 18446744073709551616) := ⟨_, rfl⟩
  have k1 : ∀ w : World, (callFunc 57 #[.int .u64 b, .int .u64 d, .int .u64 0]).run Tryd.prog w = .ok (.value (.tuple #[.int .u64 (L : Int), .int .u64 (C : Int)])) w := fun w => by
    rw [HL.out, HC.out]; exact add64_any b d 0 (by decide) w
  have hC : C ≤ 1 := by rw [HC.out]; omega
  have k2 : ∀ w : World, (callFunc 57 #[.int .u64 a, .int .u64 0, .int .u64 C]).run Tryd.prog w = .ok (.value (.tuple #[.int .u64 (U : Int), .int .u64 (E : Int)])) w := fun w => by
    rw [HU.out, HE.out]; exact add64_any a 0 C hC w
  have HB := Lib.hid (And.intro ha (And.intro hb (And.intro hd hC)))
  clear ha hb hd hC

  go_enter Tryd.func37, Tryd.ntmps37
  go_wp2_with fail
  refine bodyPost_ret (v := .agg #[.int .u64 U, .int .u64 L, .bool false]) (by simp [results, Tryd.results37, go_sem]) rfl ⟨U, L, rfl, by rw [HU.out]; exact Nat.mod_lt _ (by decide), by rw [HL.out]; exact Nat.mod_lt _ (by decide), ?_, ?_⟩
  · have h1 := HB.out; have h2 := HL.out; have h3 := HC.out; have h4 := HU.out; have h5 := HE.out
    omega
  · exact (((Below.refl _ _).alloc (Nat.le_refl _) _).alloc (by simp) _).alloc (by simp; omega) _

set_option maxRecDepth 100000 in
set_option maxHeartbeats 1600000 in
theorem plus_dig_true (a b d : Nat) (ha : a < 18446744073709551615) (hb : b < 18446744073709551616) (hd : d < 10) (w : World) :
    Calls Tryd.prog 37 #[.agg #[.int .u64 a, .int .u64 b, .bool true], .agg #[.int .u64 0, .int .u64 d, .bool true]] w (fun e w' => ∃ (U L : Nat), e = .returned (.agg #[.int .u64 U, .int .u64 L, .bool true]) ∧ U < 18446744073709551616 ∧ L < 18446744073709551616 ∧ U * 18446744073709551616 + L = a * 18446744073709551616 + b + d ∧ Below w.heap.size w w') := by
  obtain ⟨L, HL⟩ : ∃ L : Nat, Hid (L = (b + d + 0) % 18446744073709551616) := ⟨_, rfl⟩
  obtain ⟨C, HC⟩ : ∃ C : Nat, Hid (C = (b + d + 0) / 18446744073709551616) := ⟨_, rfl⟩
  obtain ⟨U, HU⟩ : ∃ U : Nat, Hid (U = (a + 0 + C) % 18446744073709551616) := ⟨_, rfl⟩
  obtain ⟨E, HE⟩ : ∃ E : Nat, Hid (E = (a + 0 + C) / 18446744073709551616) := ⟨_, rfl⟩
  have k1 : ∀ w : World, (callFunc 57 #[.int .u64 b, .int .u64 d, .int .u64 0]).run Tryd.prog w = .ok (.value (.tuple #[.int .u64 (L : Int), .int .u64 (C : Int)])) w := fun w => by
    rw [HL.out, HC.out]; exact add64_any b d 0 (by decide) w
  have hC : C ≤ 1 := by rw [HC.out]; omega
  have k2 : ∀ w : World, (callFunc 57 #[.int .u64 a, .int .u64 0, .int .u64 C]).run Tryd.prog w = .ok (.value (.tuple #[.int .u64 (U : Int), .int .u64 (E : Int)])) w := fun w => by
    rw [HU.out, HE.out]; exact add64_any a 0 C hC w
  have HB := Lib.hid (And.intro ha (And.intro hb (And.intro hd hC)))
  clear ha hb hd hC

  go_enter Tryd.func37, Tryd.ntmps37
  go_wp2_with fail
  refine bodyPost_ret (v := .agg #[.int .u64 U, .int .u64 L, .bool true]) (by simp [results, Tryd.results37, go_sem]) rfl ⟨U, L, rfl, by rw [HU.out]; exact Nat.mod_lt _ (by decide), by rw [HL.out]; exact Nat.mod_lt _ (by decide), ?_, ?_⟩
  · have h1 := HB.out; have h2 := HL.out; have h3 := HC.out; have h4 := HU.out; have h5 := HE.out
    omega
  · exact (((Below.refl _ _).alloc (Nat.le_refl _) _).alloc (by simp) _).alloc (by simp; omega) _

set_option maxRecDepth 100000 in
set_option maxHeartbeats 1600000 in
theorem radd_dig_false (a b d : Nat) (ha : a < 18446744073709551616) (hb : b < 18446744073709551616) (hd : d < 10) (w : World) :
    Calls Tryd.prog 42 #[.agg #[.int .u64 a, .int .u64 b, .bool false], .agg #[.int .u64 0, .int .u64 d, .bool false]] w (fun e w' => ∃ (U L : Nat) (ok : Bool), e = .returned (.tuple #[.agg #[.int .u64 U, .int .u64 L, .bool false], .bool ok]) ∧ U < 18446744073709551616 ∧ L < 18446744073709551616 ∧ U * 18446744073709551616 + L = (a * 18446744073709551616 + b + d) % 340282366920938463463374607431768211456 ∧ ok = decide (a * 18446744073709551616 + b + d < 340282366920938463463374607431768211456) ∧ Below w.heap.size w w') := by
  obtain ⟨L, HL⟩ : ∃ L : Nat, Hid (L = (b + d + 0) % 18446744073709551616) := ⟨_, rfl⟩
  obtain ⟨C, HC⟩ : ∃ C : Nat, Hid (C = (b + d + 0) / 18446744073709551616) := ⟨_, rfl⟩
  obtain ⟨U, HU⟩ : ∃ U : Nat, Hid (U = (a + 0 + C) % 18446744073709551616) := ⟨_, rfl⟩
  obtain ⟨E, HE⟩ : ∃ E : Nat, Hid (E = (a + 0 + C) / 18446744073709551616) := ⟨_, rfl⟩
  have k1 : ∀ w : World, (callFunc 57 #[.int .u64 b, .int .u64 d, .int .u64 0]).run Tryd.prog w = .ok (.value (.tuple #[.int .u64 (L : Int), .int .u64 (C : Int)])) w := fun w => by
    rw [HL.out, HC.out]; exact add64_any b d 0 (by decide) w
  have hC : C ≤ 1 := by rw [HC.out]; omega
  have k2 : ∀ w : World, (callFunc 57 #[.int .u64 a, .int .u64 0, .int .u64 C]).run Tryd.prog w = .ok (.value (.tuple #[.int .u64 (U : Int), .int .u64 (E : Int)])) w := fun w => by
    rw [HU.out, HE.out]; exact add64_any a 0 C hC w
  have HB := Lib.hid (And.intro ha (And.intro hb (And.intro hd hC)))
  clear ha hb hd hC

  rcases Nat.eq_zero_or_pos E with e0 | e0
  · subst e0
    go_enter Tryd.func42, Tryd.ntmps42
    go_wp2_with fail
    refine bodyPost_ret (v := .tuple #[.agg #[.int .u64 U, .int .u64 L, .bool false], .bool true]) (by simp [results, Tryd.results42, go_sem]) rfl ⟨U, L, true, rfl, by rw [HU.out]; exact Nat.mod_lt _ (by decide), by rw [HL.out]; exact Nat.mod_lt _ (by decide), ?_, ?_, ?_⟩
    · have h1 := HB.out; have h2 := HL.out; have h3 := HC.out; have h4 := HU.out; have h5 := HE.out
      omega
    · refine (decide_eq_true ?_).symm
      have h1 := HB.out; have h2 := HL.out; have h3 := HC.out; have h4 := HU.out; have h5 := HE.out
      omega
    · exact (((Below.refl _ _).alloc (Nat.le_refl _) _).alloc (by simp) _).alloc (by simp; omega) _
  · have q1 : ((E : Int) == 0) = false := by simp; omega
    go_enter Tryd.func42, Tryd.ntmps42
    go_wp2_with fail
    refine bodyPost_ret (v := .tuple #[.agg #[.int .u64 U, .int .u64 L, .bool false], .bool false]) (by simp [results, Tryd.results42, go_sem]) rfl ⟨U, L, false, rfl, by rw [HU.out]; exact Nat.mod_lt _ (by decide), by rw [HL.out]; exact Nat.mod_lt _ (by decide), ?_, ?_, ?_⟩
    · have h1 := HB.out; have h2 := HL.out; have h3 := HC.out; have h4 := HU.out; have h5 := HE.out
      omega
    · refine (decide_eq_false ?_).symm
      have h1 := HB.out; have h2 := HL.out; have h3 := HC.out; have h4 := HU.out; have h5 := HE.out
      omega
    · exact (((Below.refl _ _).alloc (Nat.le_refl _) _).alloc (by simp) _).alloc (by simp; omega) _

set_option maxRecDepth 100000 in
set_option maxHeartbeats 1600000 in
theorem radd_dig_true (a b d : Nat) (ha : a < 18446744073709551616) (hb : b < 18446744073709551616) (hd : d < 10) (w : World) :
    Calls Tryd.prog 42 #[.agg #[.int .u64 a, .int .u64 b, .bool true], .agg #[.int .u64 0, .int .u64 d, .bool true]] w (fun e w' => ∃ (U L : Nat) (ok : Bool), e = .returned (.tuple #[.agg #[.int .u64 U, .int .u64 L, .bool true], .bool ok]) ∧ U < 18446744073709551616 ∧ L < 18446744073709551616 ∧ U * 18446744073709551616 + L = (a * 18446744073709551616 + b + d) % 340282366920938463463374607431768211456 ∧ ok = decide (a * 18446744073709551616 + b + d < 340282366920938463463374607431768211456) ∧ Below w.heap.size w w') := by
  obtain ⟨L, HL⟩ : ∃ L : Nat, Hid (L = (b + d + 0) % 18446744073709551616) := ⟨_, rfl⟩
  obtain ⟨C, HC⟩ : ∃ C : Nat, Hid (C = (b + d + 0) / 18446744073709551616) := ⟨_, rfl⟩
  obtain ⟨U, HU⟩ : ∃ U : Nat, Hid (U = (a + 0 + C) % 18446744073709551616) := ⟨_, rfl⟩
  obtain ⟨E, HE⟩ : ∃ E : Nat, Hid (E = (a + 0 + C) / 18446744073709551616) := ⟨_, rfl⟩
  have k1 : ∀ w : World, (callFunc 57 #[.int .u64 b, .int .u64 d, .int .u64 0]).run Tryd.prog w = .ok (.value (.tuple #[.int .u64 (L : Int), .int .u64 (C : Int)])) w := fun w => by
    rw [HL.out, HC.out]; exact add64_any b d 0 (by decide) w
  have hC : C ≤ 1 := by rw [HC.out]; omega
  have k2 : ∀ w : World, (callFunc 57 #[.int .u64 a, .int .u64 0, .int .u64 C]).run Tryd.prog w = .ok (.value (.tuple #[.int .u64 (U : Int), .int .u64 (E : Int)])) w := fun w => by
    rw [HU.out, HE.out]; exact add64_any a 0 C hC w
  have HB := Lib.hid (And.intro ha (And.intro hb (And.intro hd hC)))
  clear ha hb hd hC

  rcases Nat.eq_zero_or_pos E with e0 | e0
  · subst e0
    go_enter Tryd.func42, Tryd.ntmps42
    go_wp2_with fail
    refine bodyPost_ret (v := .tuple #[.agg #[.int .u64 U, .int .u64 L, .bool true], .bool true]) (by simp [results, Tryd.results42, go_sem]) rfl ⟨U, L, true, rfl, by rw [HU.out]; exact Nat.mod_lt _ (by decide), by rw [HL.out]; exact Nat.mod_lt _ (by decide), ?_, ?_, ?_⟩
    · have h1 := HB.out; have h2 := HL.out; have h3 := HC.out; have h4 := HU.out; have h5 := HE.out
      omega
    · refine (decide_eq_true ?_).symm
      have h1 := HB.out; have h2 := HL.out; have h3 := HC.out; have h4 := HU.out; have h5 := HE.out
      omega
    · exact (((Below.refl _ _).alloc (Nat.le_refl _) _).alloc (by simp) _).alloc (by simp; omega) _
  · have q1 : ((E : Int) == 0) = false := by simp; omega
    go_enter Tryd.func42, Tryd.ntmps42
    go_wp2_with fail
    refine bodyPost_ret (v := .tuple #[.agg #[.int .u64 U, .int .u64 L, .bool true], .bool false]) (by simp [results, Tryd.results42, go_sem]) rfl ⟨U, L, false, rfl, by rw [HU.out]; exact Nat.mod_lt _ (by decide), by rw [HL.out]; exact Nat.mod_lt _ (by decide), ?_, ?_, ?_⟩
    · have h1 := HB.out; have h2 := HL.out; have h3 := HC.out; have h4 := HU.out; have h5 := HE.out
      omega
    · refine (decide_eq_false ?_).symm
      have h1 := HB.out; have h2 := HL.out; have h3 := HC.out; have h4 := HU.out; have h5 := HE.out
      omega
    · exact (((Below.refl _ _).alloc (Nat.le_refl _) _).alloc (by simp) _).alloc (by simp; omega) _

set_option maxRecDepth 100000 in
set_option maxHeartbeats 1600000 in
theorem rby_ten (x : Bool) (h l : Nat) (hh : h < 18446744073709551616) (hl : l < 18446744073709551616) (w : World) :
    Calls Tryd.prog 40 #[.agg #[.int .u64 h, .int .u64 l, .bool x], .int .u64 10] w
      (fun e w' => ∃ (U L : Nat) (ok : Bool), e = .returned (.tuple #[.agg #[.int .u64 U, .int .u64 L, .bool x], .bool ok]) ∧ U < 18446744073709551616 ∧ L < 18446744073709551616 ∧ U * 18446744073709551616 + L = ((h * 18446744073709551616 + l) * 10) % 340282366920938463463374607431768211456 ∧ ok = decide ((h * 18446744073709551616 + l) * 10 < 340282366920938463463374607431768211456) ∧ Below w.heap.size w w') := by
  obtain ⟨A, HA⟩ : ∃ A : Nat, Hid (A = l * 10 / 18446744073709551616) := ⟨_, rfl⟩
  obtain ⟨L, HL⟩ : ∃ B : Nat, Hid (B = l * 10 % 18446744073709551616) := ⟨_, rfl⟩
  obtain ⟨I, HI⟩ : ∃ A : Nat, Hid (A = h * 10 / 18446744073709551616) := ⟨_, rfl⟩
  obtain ⟨J, HJ⟩ : ∃ B : Nat, Hid (B = h * 10 % 18446744073709551616) := ⟨_, rfl⟩
  obtain ⟨U, HU⟩ : ∃ U : Nat, Hid (U = (J + A + 0) % 18446744073709551616) := ⟨_, rfl⟩
  obtain ⟨E, HE⟩ : ∃ E : Nat, Hid (E = (J + A + 0) / 18446744073709551616) := ⟨_, rfl⟩
  have c1 : Hid (∀ w, Calls Tryd.prog 38 #[.int .u64 l, .int .u64 10] w (RetS (.tuple #[.int .u64 (A : Int), .int .u64 (L : Int)]) w)) := fun w => by rw [HA.out, HL.out]; exact mul64_any l 10 hl (by decide) w
  have c2 : Hid (∀ w, Calls Tryd.prog 38 #[.int .u64 h, .int .u64 10] w (RetS (.tuple #[.int .u64 (I : Int), .int .u64 (J : Int)]) w)) := fun w => by rw [HI.out, HJ.out]; exact mul64_any h 10 hh (by decide) w
  have k1 : ∀ w : World, (callFunc 57 #[.int .u64 J, .int .u64 A, .int .u64 0]).run Tryd.prog w = .ok (.value (.tuple #[.int .u64 (U : Int), .int .u64 (E : Int)])) w := fun w => by
    rw [HU.out, HE.out]; exact add64_any J A 0 (by decide) w
  have HB := Lib.hid (And.intro hh hl)
  clear hh hl

  rcases Nat.eq_zero_or_pos I with i0 | i0
  · subst i0
    rcases Nat.eq_zero_or_pos E with e0 | e0
    · subst e0
      go_enter Tryd.func40, Tryd.ntmps40
      go_upto_region 2 with (go_at_call 38; refine (c1.out _).mono ?_; rintro e w' ⟨rfl, rfl⟩)
      go_wp2_with (go_at_call 38; refine (c2.out _).mono ?_; rintro e w' ⟨rfl, rfl⟩)
      refine bodyPost_ret (v := .tuple #[.agg #[.int .u64 U, .int .u64 L, .bool x], .bool true]) (by simp [results, Tryd.results40, go_sem]) rfl ⟨U, L, true, rfl, by rw [HU.out]; exact Nat.mod_lt _ (by decide), by rw [HL.out]; exact Nat.mod_lt _ (by decide), ?_, ?_, ?_⟩
      · have h1 := HB.out; have h2 := HA.out; have h3 := HL.out; have h4 := HI.out; have h5 := HJ.out; have h6 := HU.out; have h7 := HE.out
        omega
      · refine (decide_eq_true ?_).symm
        have h1 := HB.out; have h2 := HA.out; have h3 := HL.out; have h4 := HI.out; have h5 := HJ.out; have h6 := HU.out; have h7 := HE.out
        omega
      · exact ((Below.refl _ _).alloc (Nat.le_refl _) _).alloc (by simp) _
    · have q1 : ((E : Int) == 0) = false := by simp; omega
      go_enter Tryd.func40, Tryd.ntmps40
      go_upto_region 2 with (go_at_call 38; refine (c1.out _).mono ?_; rintro e w' ⟨rfl, rfl⟩)
      go_wp2_with (go_at_call 38; refine (c2.out _).mono ?_; rintro e w' ⟨rfl, rfl⟩)
      refine bodyPost_ret (v := .tuple #[.agg #[.int .u64 U, .int .u64 L, .bool x], .bool false]) (by simp [results, Tryd.results40, go_sem]) rfl ⟨U, L, false, rfl, by rw [HU.out]; exact Nat.mod_lt _ (by decide), by rw [HL.out]; exact Nat.mod_lt _ (by decide), ?_, ?_, ?_⟩
      · have h1 := HB.out; have h2 := HA.out; have h3 := HL.out; have h4 := HI.out; have h5 := HJ.out; have h6 := HU.out; have h7 := HE.out
        omega
      · refine (decide_eq_false ?_).symm
        have h1 := HB.out; have h2 := HA.out; have h3 := HL.out; have h4 := HI.out; have h5 := HJ.out; have h6 := HU.out; have h7 := HE.out
        omega
      · exact ((Below.refl _ _).alloc (Nat.le_refl _) _).alloc (by simp) _
  · have q1 : ((I : Int) == 0) = false := by simp; omega
    go_enter Tryd.func40, Tryd.ntmps40
    go_upto_region 2 with (go_at_call 38; refine (c1.out _).mono ?_; rintro e w' ⟨rfl, rfl⟩)
    go_wp2_with (go_at_call 38; refine (c2.out _).mono ?_; rintro e w' ⟨rfl, rfl⟩)
    refine bodyPost_ret (v := .tuple #[.agg #[.int .u64 U, .int .u64 L, .bool x], .bool false]) (by simp [results, Tryd.results40, go_sem]) rfl ⟨U, L, false, rfl, by rw [HU.out]; exact Nat.mod_lt _ (by decide), by rw [HL.out]; exact Nat.mod_lt _ (by decide), ?_, ?_, ?_⟩
    · have h1 := HB.out; have h2 := HA.out; have h3 := HL.out; have h4 := HI.out; have h5 := HJ.out; have h6 := HU.out; have h7 := HE.out
      omega
    · refine (decide_eq_false ?_).symm
      have h1 := HB.out; have h2 := HA.out; have h3 := HL.out; have h4 := HI.out; have h5 := HJ.out; have h6 := HU.out; have h7 := HE.out
      omega
    · exact ((Below.refl _ _).alloc (Nat.le_refl _) _).alloc (by simp) _

end Go.Proofs.YtfcbcbpnlnkpcaaDoor

/- cmp.Compare, cmp.Or; powers of ten, numbers without their sign; the classes. -/
import Derived.Test.YtfcbcbpnlnkpcaaQCmpp
import Derived.LoopTactic
import Derived.Outline
namespace Go.Proofs.Ytfcbcbpnlnkpcaa
set_option linter.all false
open Go.RowKit
theorem ret_i {k : IntKind} {a b : Int} (h : a = b) : Ending.returned (.int k a) = .returned (.int k b) := by rw [h]
set_option maxHeartbeats 400000 in
theorem cmpInt_any (a b : Int) (w : World) : Calls Try.prog 39 #[.int .i64 a, .int .i64 b] w (RetS (.int .i64 (cmpI a b)) w) := by
  rcases Int.lt_trichotomy a b with h | h | h
  · have H : Hid (cmpI a b = -1) := if_pos h
    go_enter Try.func39, Try.ntmps39
    go_wp2
    go_ret
    exact ⟨ret_i (by rw [H.out]), rfl⟩
  · subst h
    have H : Hid (cmpI a a = 0) := cmpI_self a
    go_enter Try.func39, Try.ntmps39
    go_wp2
    go_ret
    exact ⟨ret_i (by rw [H.out]), rfl⟩
  · have H : Hid (cmpI a b = 1) := by show _ = _; unfold cmpI; rw [if_neg (by omega), if_pos h]
    have h' : ¬ a < b := by omega
    go_enter Try.func39, Try.ntmps39
    go_wp2
    go_ret
    exact ⟨ret_i (by rw [H.out]), rfl⟩
set_option maxHeartbeats 400000 in
theorem cmpU64_any (a b : Int) (w : World) : Calls Try.prog 62 #[.int .u64 a, .int .u64 b] w (RetS (.int .i64 (cmpI a b)) w) := by
  rcases Int.lt_trichotomy a b with h | h | h
  · have H : Hid (cmpI a b = -1) := if_pos h
    go_enter Try.func62, Try.ntmps62
    go_wp2
    go_ret
    exact ⟨ret_i (by rw [H.out]), rfl⟩
  · subst h
    have H : Hid (cmpI a a = 0) := cmpI_self a
    go_enter Try.func62, Try.ntmps62
    go_wp2
    go_ret
    exact ⟨ret_i (by rw [H.out]), rfl⟩
  · have H : Hid (cmpI a b = 1) := by show _ = _; unfold cmpI; rw [if_neg (by omega), if_pos h]
    have h' : ¬ a < b := by omega
    go_enter Try.func62, Try.ntmps62
    go_wp2
    go_ret
    exact ⟨ret_i (by rw [H.out]), rfl⟩
theorem bytes_tri (a b : List UInt8) : (Op.bytesLess a b = true ∧ cmpB a b = -1) ∨ (Op.bytesLess a b = false ∧ a = b ∧ cmpB a b = 0) ∨ (Op.bytesLess a b = false ∧ (a == b) = false ∧ cmpB a b = 1) := by
  rcases h : Op.bytesLess a b with _ | _
  · right
    rcases h2 : Op.bytesLess b a with _ | _
    · left
      have : cmpB a b = 0 := by unfold cmpB; rw [h, h2]; rfl
      exact ⟨rfl, cmpB_zero this, this⟩
    · right
      have : cmpB a b = 1 := by unfold cmpB; rw [h, h2]; rfl
      refine ⟨rfl, ?_, this⟩
      rw [beq_eq_false_iff_ne]
      rintro rfl
      rw [cmpB_self] at this; omega
  · left
    exact ⟨rfl, by unfold cmpB; rw [h]; rfl⟩
set_option maxHeartbeats 400000 in
theorem cmpStr_any (a b : List UInt8) (w : World) : Calls Try.prog 42 #[.string (str a), .string (str b)] w (RetS (.int .i64 (cmpB a b)) w) := by
  have ea : Hid ((str a).toList = a) := str_toList a
  have eb : Hid ((str b).toList = b) := str_toList b
  have ra : ((str a).toList == (str a).toList) = true := by simp
  have rb : ((str b).toList == (str b).toList) = true := by simp
  rcases bytes_tri a b with ⟨h1, h2⟩ | ⟨h1, h2, h3⟩ | ⟨h1, h2, h3⟩
  · have H := Lib.hid h2
    have h1' : Op.bytesLess (str a).toList (str b).toList = true := by rw [ea.out, eb.out]; exact h1
    clear h1 h2
    go_enter Try.func42, Try.ntmps42
    go_wp2
    go_ret
    exact ⟨ret_i (by rw [H.out]), rfl⟩
  · subst h2
    have H := Lib.hid h3
    have h1' : Op.bytesLess (str a).toList (str a).toList = false := by rw [ea.out]; exact h1
    clear h1 h3
    go_enter Try.func42, Try.ntmps42
    go_wp2
    go_ret
    exact ⟨ret_i (by rw [H.out]), rfl⟩
  · have H := Lib.hid h3
    have h1' : Op.bytesLess (str a).toList (str b).toList = false := by rw [ea.out, eb.out]; exact h1
    have h2' : ((str a).toList == (str b).toList) = false := by rw [ea.out, eb.out]; exact h2
    clear h1 h2 h3
    go_enter Try.func42, Try.ntmps42
    go_wp2
    go_ret
    exact ⟨ret_i (by rw [H.out]), rfl⟩
set_option maxHeartbeats 400000 in
theorem or2_any (g : Nat) (a b : Int) (w : World) (ha : w.cell? ⟨g, 0, none⟩ = some (.int .i64 a)) (hb : w.cell? ⟨g, 1, none⟩ = some (.int .i64 b)) :
    Calls Try.prog 61 #[.slice (some ⟨g, 0, none⟩) 2 2] w (RetS (.int .i64 (orI a b)) w) := by
  rcases h : (a != 0) with _ | _
  · have e : a = 0 := by simpa using h
    have H : Hid (orI a b = b) := by show _ = _; unfold orI; rw [if_pos e]
    rcases h2 : (b != 0) with _ | _
    · have e2 : Hid (b = 0) := by show _ = _; simpa using h2
      clear e
      go_enter Try.func61, Try.ntmps61
      go_wp2
      refine wp_loop_rounds 3 ?_
      rw [rounds_succ]
      go_wp2
      rw [rounds_succ]
      go_wp2
      rw [rounds_succ]
      go_wp2
      go_ret
      exact ⟨ret_i (by rw [H.out, e2.out]), rfl⟩
    · clear e
      go_enter Try.func61, Try.ntmps61
      go_wp2
      refine wp_loop_rounds 2 ?_
      rw [rounds_succ]
      go_wp2
      rw [rounds_succ]
      go_wp2
      go_ret
      exact ⟨ret_i (by rw [H.out]), rfl⟩
  · have H : Hid (orI a b = a) := by show _ = _; unfold orI; rw [if_neg (by simpa using h)]
    go_enter Try.func61, Try.ntmps61
    go_wp2
    refine wp_loop_rounds 1 ?_
    rw [rounds_succ]
    go_wp2
    go_ret
    exact ⟨ret_i (by rw [H.out]), rfl⟩
set_option maxHeartbeats 400000 in
theorem tens_any (n : Nat) (hn : n ≤ 18) (w : World) : Calls Try.prog 60 #[.int .i64 n] w (RetS (.int .u64 ((10 ^ n : Nat) : Int)) w) := by
  go_enter Try.func60, Try.ntmps60
  go_wp2
  go_loop [3, 5] (fun p i => ∃ k x : Nat, k ≤ n ∧ i = .int .i64 k ∧ p = .int .u64 (x : Int) ∧ Hid (x = 10 ^ k)) (fun _ i => n - (intOf i).toNat)
  case atStart => exact ⟨0, 1, Nat.zero_le _, rfl, rfl, rfl⟩
  case round =>
    obtain ⟨k, x, hk, rfl, rfl, HX⟩ := hrel
    by_cases hlt : k < n
    · have hx : x ≤ 1000000000000000000 := by rw [HX.out]; have : 10 ^ k ≤ 10 ^ 17 := Nat.pow_le_pow_right (by omega) (by omega); omega
      have HN : Hid (x * 10 = 10 ^ (k + 1)) := by show _ = _; rw [HX.out, Nat.pow_succ]
      clear HX
      go_wp2
      go_round
      case rel => exact ⟨k + 1, x * 10, by omega, by go_num, congrArg (Value.int .u64) (by omega), HN⟩
      case measure => simp [intOf]; omega
    · obtain rfl : k = n := by omega
      go_wp2
      go_ret
      exact ⟨ret_i (by rw [HX.out]; simp), rfl⟩
set_option maxHeartbeats 400000 in
theorem abs_any (a : Int) (h : I64 a) (w : World) : Calls Try.prog 59 #[.int .i64 a] w (RetS (.int .u64 (a.natAbs : Int)) w) := by
  obtain ⟨h1, h2⟩ := h
  by_cases h0 : a < 0
  · go_enter Try.func59, Try.ntmps59
    go_wp2
    go_ret
    exact ⟨ret_i (by simp only [IntKind.wrap_u64]; omega), rfl⟩
  · go_enter Try.func59, Try.ntmps59
    go_wp2
    go_ret
    exact ⟨ret_i (by omega), rfl⟩
def clsV (k : Int) : Int := if k = 2 then 1 else if k = 3 ∨ k = 4 then 2 else if k = 5 then 3 else if k = 6 then 4 else if k = 7 then 5 else if k = 8 then 6 else if k = 9 then 7 else 0
set_option maxHeartbeats 1600000 in
theorem class_any (k : Int) (h1 : 1 ≤ k) (h9 : k ≤ 9) (w : World) : Calls Try.prog 40 #[.int .i64 k] w (RetS (.int .i64 (clsV k)) w) := by
  have : k = 1 ∨ k = 2 ∨ k = 3 ∨ k = 4 ∨ k = 5 ∨ k = 6 ∨ k = 7 ∨ k = 8 ∨ k = 9 := by omega
  rcases this with rfl | rfl | rfl | rfl | rfl | rfl | rfl | rfl | rfl
  all_goals
    go_enter Try.func40, Try.ntmps40
    go_wp2
    go_ret
    exact ⟨ret_i (by decide +kernel), rfl⟩
end Go.Proofs.Ytfcbcbpnlnkpcaa

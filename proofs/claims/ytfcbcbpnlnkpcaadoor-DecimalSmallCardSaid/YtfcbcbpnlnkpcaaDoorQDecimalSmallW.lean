/- DecimalSmall: the walk of the law. (Printed by gen/dsmall.py.) -/
import Derived.Test.YtfcbcbpnlnkpcaaDoorQKnown6
import Derived.Test.YtfcbcbpnlnkpcaaDoorQAn
import Derived.Test.YtfcbcbpnlnkpcaaDoorQDecCmp
namespace Go.Proofs.YtfcbcbpnlnkpcaaDoor
set_option linter.all false
open Go.RowKit
theorem fits_small {M : Int} {s : Nat} (h1 : -4611686018427387904 ≤ M) (h2 : M ≤ 4611686018427387904) (hs : s ≤ 18) : fits (red s M).1 (red s M).2 = true := by
  have ⟨a, b⟩ := red_eq s M
  generalize red s M = p at *
  obtain ⟨m, t⟩ := p
  simp only at a b
  have hp : (1 : Int) ≤ 10 ^ (s - t) := by
    have : (1 : Nat) ≤ 10 ^ (s - t) := Nat.one_le_pow _ _ (by decide)
    exact_mod_cast this
  generalize (10 : Int) ^ (s - t) = P at *
  have hm : -4611686018427387904 ≤ m ∧ m ≤ 4611686018427387904 := by
    rcases Int.le_total 0 m with h | h
    · have := Int.mul_le_mul_of_nonneg_left hp h
      omega
    · have := Int.mul_le_mul_of_nonpos_left h hp
      omega
  simp [fits]
  omega
theorem lsR_small {M : Int} {s : Nat} (h1 : -4611686018427387904 ≤ M) (h2 : M ≤ 4611686018427387904) (hs : s ≤ 18) : (lsR M s).2 = 0 := by
  unfold lsR leastP
  rw [if_pos (fits_small h1 h2 hs)]
  rfl
theorem lsR_up {M : Int} {s : Nat} (hs : s ≤ 18) : lsR M s = lsR (M * 10 ^ (18 - s)) 18 := by unfold lsR; rw [leastP_up hs]
theorem cmpI_mulS (a b : Int) {P : Int} (hp : 0 < P) : cmpI (a * P) (b * P) = cmpI a b := by
  unfold cmpI
  simp only [Int.mul_lt_mul_right hp]
theorem makeR_ls {n s : Int} (h : ¬ s < 0) (h2 : (lsR n s.toNat).2 = 0) : makeR n s = ((lsR n s.toNat).1, 0) := by unfold makeR; rw [if_neg h]; exact Prod.ext rfl h2
theorem small_law {a b : Int} {s : Nat} (a1 : -1073741824 ≤ a) (a2 : a ≤ 1073741824) (b1 : -1073741824 ≤ b) (b2 : b ≤ 1073741824) (hs : s ≤ 9) :
    (lsR a s).2 = 0 ∧ (lsR b s).2 = 0 ∧ addR (lsR a s).1 .nil (lsR b s).1 .nil = lsR (a + b) s ∧ (lsR (a + b) s).2 = 0 ∧ mulR (lsR a s).1 .nil (lsR b s).1 .nil = lsR (a * b) (2 * s) ∧ (lsR (a * b) (2 * s)).2 = 0 ∧
    cmpR (lsR a s).1 .nil (lsR b s).1 .nil = (cmpI a b, 0) := by
  have ea := lsR_small (M := a) (s := s) (by omega) (by omega) (by omega)
  have eb := lsR_small (M := b) (s := s) (by omega) (by omega) (by omega)
  have ha := ea
  have hb := eb
  rw [lsR_up (by omega)] at ha hb
  have ⟨x1, x2⟩ := lsR_val ha
  have ⟨y1, y2⟩ := lsR_val hb
  rw [← lsR_up (by omega)] at x1 x2 y1 y2
  have hab : -4611686018427387904 ≤ a * b ∧ a * b ≤ 4611686018427387904 := by
    have h : (a * b).natAbs ≤ 1073741824 * 1073741824 := by
      rw [Int.natAbs_mul]
      exact Nat.mul_le_mul (by omega) (by omega)
    omega
  refine ⟨ea, eb, ?_, lsR_small (by omega) (by omega) (by omega), ?_, lsR_small (by omega) (by omega) (by omega), ?_⟩
  · rw [addR_num x1 y1, x2, y2, ← Int.add_mul, ← lsR_up (by omega)]
  · rw [mulR_num x1 y1, x2, y2]
    unfold lsR
    rw [show leastP (a * b) (2 * s) = leastP (a * 10 ^ (18 - s) * (b * 10 ^ (18 - s))) 36 from by
      rw [leastP_up (k := 36) (by omega)]
      congr 1
      rw [show (36 - 2 * s) = (18 - s) + (18 - s) from by omega, Int.pow_add, Int.mul_assoc, Int.mul_assoc, ← Int.mul_assoc b, Int.mul_comm b, Int.mul_assoc, ← Int.mul_assoc, ← Int.mul_assoc, ← Int.mul_assoc, Int.mul_assoc (a * _) b]
      simp [Int.mul_comm, Int.mul_left_comm]]
  · unfold cmpR
    rw [num_numB x1, num_numB y1, cmpV_num x1 y1, x2, y2, cmpI_mulS _ _ (by have : (0 : Nat) < 10 ^ (18 - s) := Nat.pow_pos (by decide); exact_mod_cast this)]
    rfl

set_option maxRecDepth 100000 in
set_option maxHeartbeats 6400000 in
theorem decimalSmall_out (n m s : Int) (hn : I64 n) (hm : I64 m) (hs : I64 s) (w : World) (htab : Lib.TabIs Tryd.prog w "internal/strconv.uint64pow10" .u64 Lib.pow10Tab) (h : n < -1073741824 ∨ 1073741824 < n ∨ m < -1073741824 ∨ 1073741824 < m ∨ s < 0 ∨ 9 < s) :
    Calls Tryd.prog 6 #[.int .i64 n, .int .i64 m, .int .i64 s] w (Ret (.bool true) w) := by
  have HK : Hid (∀ w', Below w.heap.size w w' → Calls Tryd.prog 13 #[] w' (Ret (.bool true) w')) := fun w' hb => known6_any w' (tab_below htab hb)
  have ST0 : Hid (St w [] w) := St.nil w
  clear htab
  by_cases t0 : n < -1073741824
  · clear h hn hm hs
    go_enter Tryd.func6, Tryd.ntmps6
    go_wp2_with fail
    refine (HK.out _ ST0.out.1).mono ?_
    rintro e' u1 ⟨rfl, c1⟩
    have ST1 : Hid (St w [] u1) := ST0.out.step c1
    clear c1
    go_wp2_with fail
    go_ret
    first | exact ⟨rfl, ST1.out.1⟩ | exact ⟨ret_bo (by simp; omega), ST1.out.1⟩
  by_cases t1 : 1073741824 < n
  · clear h hn hm hs
    go_enter Tryd.func6, Tryd.ntmps6
    go_wp2_with fail
    refine (HK.out _ ST0.out.1).mono ?_
    rintro e' u1 ⟨rfl, c1⟩
    have ST1 : Hid (St w [] u1) := ST0.out.step c1
    clear c1
    go_wp2_with fail
    go_ret
    first | exact ⟨rfl, ST1.out.1⟩ | exact ⟨ret_bo (by simp; omega), ST1.out.1⟩
  by_cases t2 : m < -1073741824
  · clear h hn hm hs
    go_enter Tryd.func6, Tryd.ntmps6
    go_wp2_with fail
    refine (HK.out _ ST0.out.1).mono ?_
    rintro e' u1 ⟨rfl, c1⟩
    have ST1 : Hid (St w [] u1) := ST0.out.step c1
    clear c1
    go_wp2_with fail
    go_ret
    first | exact ⟨rfl, ST1.out.1⟩ | exact ⟨ret_bo (by simp; omega), ST1.out.1⟩
  by_cases t3 : 1073741824 < m
  · clear h hn hm hs
    go_enter Tryd.func6, Tryd.ntmps6
    go_wp2_with fail
    refine (HK.out _ ST0.out.1).mono ?_
    rintro e' u1 ⟨rfl, c1⟩
    have ST1 : Hid (St w [] u1) := ST0.out.step c1
    clear c1
    go_wp2_with fail
    go_ret
    first | exact ⟨rfl, ST1.out.1⟩ | exact ⟨ret_bo (by simp; omega), ST1.out.1⟩
  by_cases t4 : s < 0
  · clear h hn hm hs
    go_enter Tryd.func6, Tryd.ntmps6
    go_wp2_with fail
    refine (HK.out _ ST0.out.1).mono ?_
    rintro e' u1 ⟨rfl, c1⟩
    have ST1 : Hid (St w [] u1) := ST0.out.step c1
    clear c1
    go_wp2_with fail
    go_ret
    first | exact ⟨rfl, ST1.out.1⟩ | exact ⟨ret_bo (by simp; omega), ST1.out.1⟩
  by_cases t5 : 9 < s
  · clear h hn hm hs
    go_enter Tryd.func6, Tryd.ntmps6
    go_wp2_with fail
    refine (HK.out _ ST0.out.1).mono ?_
    rintro e' u1 ⟨rfl, c1⟩
    have ST1 : Hid (St w [] u1) := ST0.out.step c1
    clear c1
    go_wp2_with fail
    go_ret
    first | exact ⟨rfl, ST1.out.1⟩ | exact ⟨ret_bo (by simp; omega), ST1.out.1⟩
  omega
set_option maxRecDepth 100000 in
set_option maxHeartbeats 6400000 in
theorem decimalSmall_in (n m s : Int) (hn : I64 n) (hm : I64 m) (hs : I64 s) (w : World) (htab : Lib.TabIs Tryd.prog w "internal/strconv.uint64pow10" .u64 Lib.pow10Tab) (t0 : ¬ n < -1073741824) (t1 : ¬ 1073741824 < n) (t2 : ¬ m < -1073741824) (t3 : ¬ 1073741824 < m) (t4 : ¬ s < 0) (t5 : ¬ 9 < s) :
    Calls Tryd.prog 6 #[.int .i64 n, .int .i64 m, .int .i64 s] w (Ret (.bool true) w) := by
  have hL := small_law (a := n) (b := m) (s := s.toNat) (by omega) (by omega) (by omega) (by omega) (by omega)
  obtain ⟨e1, e2, e3, e4, e5, e6, e7⟩ := hL
  have HX : Hid (∀ W, Calls Tryd.prog 10 #[.int .i64 (n), .int .i64 (s)] W (Ret (.tuple #[.agg #[.int .i64 (lsR n s.toNat).1.kind, .int .i64 (lsR n s.toNat).1.int, .int .i64 (lsR n s.toNat).1.scale, .string (str (lsR n s.toNat).1.text), .slice none 0 0, .slice none 0 0], .int .i64 0]) W)) := fun W => by
    have h' := make_any (n) (s) hn hs W
    rw [makeR_ls (by omega) (e1)] at h'
    exact h'
  have HY : Hid (∀ W, Calls Tryd.prog 10 #[.int .i64 (m), .int .i64 (s)] W (Ret (.tuple #[.agg #[.int .i64 (lsR m s.toNat).1.kind, .int .i64 (lsR m s.toNat).1.int, .int .i64 (lsR m s.toNat).1.scale, .string (str (lsR m s.toNat).1.text), .slice none 0 0, .slice none 0 0], .int .i64 0]) W)) := fun W => by
    have h' := make_any (m) (s) hm hs W
    rw [makeR_ls (by omega) (e2)] at h'
    exact h'
  have HS : Hid (∀ W, Calls Tryd.prog 10 #[.int .i64 (n + m), .int .i64 (s)] W (Ret (.tuple #[.agg #[.int .i64 (lsR (n + m) s.toNat).1.kind, .int .i64 (lsR (n + m) s.toNat).1.int, .int .i64 (lsR (n + m) s.toNat).1.scale, .string (str (lsR (n + m) s.toNat).1.text), .slice none 0 0, .slice none 0 0], .int .i64 0]) W)) := fun W => by
    have h' := make_any (n + m) (s) ⟨by omega, by omega⟩ hs W
    rw [makeR_ls (by omega) (e4)] at h'
    exact h'
  have heq : (2 * s).toNat = 2 * s.toNat := by omega
  have hab : -4611686018427387904 ≤ n * m ∧ n * m ≤ 4611686018427387904 := by
    have h : (n * m).natAbs ≤ 1073741824 * 1073741824 := by
      rw [Int.natAbs_mul]
      exact Nat.mul_le_mul (by omega) (by omega)
    omega
  have HP : Hid (∀ W, Calls Tryd.prog 10 #[.int .i64 (n * m), .int .i64 (2 * s)] W (Ret (.tuple #[.agg #[.int .i64 (lsR (n * m) (2 * s.toNat)).1.kind, .int .i64 (lsR (n * m) (2 * s.toNat)).1.int, .int .i64 (lsR (n * m) (2 * s.toNat)).1.scale, .string (str (lsR (n * m) (2 * s.toNat)).1.text), .slice none 0 0, .slice none 0 0], .int .i64 0]) W)) := fun W => by
    have h' := make_any (n * m) (2 * s) ⟨by omega, by omega⟩ ⟨by omega, by omega⟩ W
    rw [makeR_ls (by omega) (by rw [heq]; exact e6)] at h'
    rw [heq] at h'
    exact h'
  clear heq
  have PX : Hid (plainN (lsR n s.toNat).1) := lsR_plain _ _
  have PY : Hid (plainN (lsR m s.toNat).1) := lsR_plain _ _
  have PS : Hid (plainN (lsR (n + m) s.toNat).1) := lsR_plain _ _
  have PP : Hid (plainN (lsR (n * m) (2 * s.toNat)).1) := lsR_plain _ _
  have HA : Hid (∀ W, Calls Tryd.prog 15 #[.agg #[.int .i64 (lsR n s.toNat).1.kind, .int .i64 (lsR n s.toNat).1.int, .int .i64 (lsR n s.toNat).1.scale, .string (str (lsR n s.toNat).1.text), .slice none 0 0, .slice none 0 0], .agg #[.int .i64 (lsR m s.toNat).1.kind, .int .i64 (lsR m s.toNat).1.int, .int .i64 (lsR m s.toNat).1.scale, .string (str (lsR m s.toNat).1.text), .slice none 0 0, .slice none 0 0]] W (Ret (.tuple #[.agg #[.int .i64 (lsR (n + m) s.toNat).1.kind, .int .i64 (lsR (n + m) s.toNat).1.int, .int .i64 (lsR (n + m) s.toNat).1.scale, .string (str (lsR (n + m) s.toNat).1.text), .slice none 0 0, .slice none 0 0], .int .i64 0]) W)) := fun W => by
    have h' := addR_any (lsR n s.toNat).1 .nil (lsR m s.toNat).1 .nil (numv (lsR n s.toNat).1) (numv (lsR m s.toNat).1) W (plain_vo PX.out W _) (plain_vo PY.out W _)
    rw [e3, show (lsR (n + m) s.toNat) = ((lsR (n + m) s.toNat).1, 0) from Prod.ext rfl e4] at h'
    exact h'
  have HM : Hid (∀ W, Calls Tryd.prog 16 #[.agg #[.int .i64 (lsR n s.toNat).1.kind, .int .i64 (lsR n s.toNat).1.int, .int .i64 (lsR n s.toNat).1.scale, .string (str (lsR n s.toNat).1.text), .slice none 0 0, .slice none 0 0], .agg #[.int .i64 (lsR m s.toNat).1.kind, .int .i64 (lsR m s.toNat).1.int, .int .i64 (lsR m s.toNat).1.scale, .string (str (lsR m s.toNat).1.text), .slice none 0 0, .slice none 0 0]] W (Ret (.tuple #[.agg #[.int .i64 (lsR (n * m) (2 * s.toNat)).1.kind, .int .i64 (lsR (n * m) (2 * s.toNat)).1.int, .int .i64 (lsR (n * m) (2 * s.toNat)).1.scale, .string (str (lsR (n * m) (2 * s.toNat)).1.text), .slice none 0 0, .slice none 0 0], .int .i64 0]) W)) := fun W => by
    have h' := mulR_any (lsR n s.toNat).1 .nil (lsR m s.toNat).1 .nil (numv (lsR n s.toNat).1) (numv (lsR m s.toNat).1) W (plain_vo PX.out W _) (plain_vo PY.out W _)
    rw [e5, show (lsR (n * m) (2 * s.toNat)) = ((lsR (n * m) (2 * s.toNat)).1, 0) from Prod.ext rfl e6] at h'
    exact h'
  have HC : Hid (∀ W, Calls Tryd.prog 19 #[.agg #[.int .i64 (lsR n s.toNat).1.kind, .int .i64 (lsR n s.toNat).1.int, .int .i64 (lsR n s.toNat).1.scale, .string (str (lsR n s.toNat).1.text), .slice none 0 0, .slice none 0 0], .agg #[.int .i64 (lsR m s.toNat).1.kind, .int .i64 (lsR m s.toNat).1.int, .int .i64 (lsR m s.toNat).1.scale, .string (str (lsR m s.toNat).1.text), .slice none 0 0, .slice none 0 0]] W (Ret (.tuple #[.int .i64 (cmpI n m), .int .i64 0]) W)) := fun W => by
    have h' := cmp6_any (lsR n s.toNat).1 .nil (lsR m s.toNat).1 .nil (numv (lsR n s.toNat).1) (numv (lsR m s.toNat).1) W (plain_vo PX.out W _) (plain_vo PY.out W _)
    rw [e7] at h'
    exact h'
  have HT : Hid ((cmpI n m = -1 ∧ n < m) ∨ (cmpI n m = 0 ∧ n = m) ∨ (cmpI n m = 1 ∧ m < n)) := by show _ ∨ _; unfold cmpI; (repeat' split) <;> omega
  have HK : Hid (∀ w', Below w.heap.size w w' → Calls Tryd.prog 13 #[] w' (Ret (.bool true) w')) := fun w' hb => known6_any w' (tab_below htab hb)
  have HES : Hid (∀ W, Calls Tryd.prog 17 #[.agg #[.int .i64 (lsR (n + m) s.toNat).1.kind, .int .i64 (lsR (n + m) s.toNat).1.int, .int .i64 (lsR (n + m) s.toNat).1.scale, .string (str (lsR (n + m) s.toNat).1.text), .slice none 0 0, .slice none 0 0], .agg #[.int .i64 (lsR (n + m) s.toNat).1.kind, .int .i64 (lsR (n + m) s.toNat).1.int, .int .i64 (lsR (n + m) s.toNat).1.scale, .string (str (lsR (n + m) s.toNat).1.text), .slice none 0 0, .slice none 0 0]] W (Ret (.bool true) W)) := fun W => eq_self PS.out W
  have HEP : Hid (∀ W, Calls Tryd.prog 17 #[.agg #[.int .i64 (lsR (n * m) (2 * s.toNat)).1.kind, .int .i64 (lsR (n * m) (2 * s.toNat)).1.int, .int .i64 (lsR (n * m) (2 * s.toNat)).1.scale, .string (str (lsR (n * m) (2 * s.toNat)).1.text), .slice none 0 0, .slice none 0 0], .agg #[.int .i64 (lsR (n * m) (2 * s.toNat)).1.kind, .int .i64 (lsR (n * m) (2 * s.toNat)).1.int, .int .i64 (lsR (n * m) (2 * s.toNat)).1.scale, .string (str (lsR (n * m) (2 * s.toNat)).1.text), .slice none 0 0, .slice none 0 0]] W (Ret (.bool true) W)) := fun W => eq_self PP.out W
  clear htab e1 e2 e3 e4 e5 e6 e7
  generalize (lsR n s.toNat).1 = x at *
  generalize (lsR m s.toNat).1 = y at *
  generalize (lsR (n + m) s.toNat).1 = r at *
  generalize (lsR (n * m) (2 * s.toNat)).1 = p at *
  generalize cmpI n m = c at *
  have ST0 : Hid (St w [] w) := St.nil w
  go_enter Tryd.func6, Tryd.ntmps6
  go_upto_region 4 with (go_at_call 10; refine (HX.out _).mono ?_; rintro e' u1 ⟨rfl, c1⟩)
  obtain ⟨W1, hW1⟩ : ∃ W1, u1.alloc (.cells #[.int .i64 x.kind, .int .i64 x.int, .int .i64 x.scale, .string (str x.text), .slice none 0 0, .slice none 0 0] 25) = W1 := ⟨_, rfl⟩
  rw [hW1]
  have ST1 : Hid (St w [⟨u1.heap.size, x, .nil, none, 0, none, 0⟩] W1) := by show St _ _ _; rw [← hW1]; exact (ST0.out.step c1).put2 PX.out
  clear hW1 c1
  go_upto_region 5 with (go_at_call 10; refine (HY.out _).mono ?_; rintro e' u2 ⟨rfl, c2⟩)
  obtain ⟨W2, hW2⟩ : ∃ W2, u2.alloc (.cells #[.int .i64 y.kind, .int .i64 y.int, .int .i64 y.scale, .string (str y.text), .slice none 0 0, .slice none 0 0] 25) = W2 := ⟨_, rfl⟩
  rw [hW2]
  have ST2 : Hid (St w [⟨u1.heap.size, x, .nil, none, 0, none, 0⟩, ⟨u2.heap.size, y, .nil, none, 0, none, 0⟩] W2) := by show St _ _ _; rw [← hW2]; exact (ST1.out.step c2).put2 PY.out
  clear hW2 c2
  obtain ⟨x0_0, x0_1, x0_2, x0_3, x0_4, x0_5⟩ : _ := ST2.out.six2 0 rfl PX.out
  obtain ⟨x1_0, x1_1, x1_2, x1_3, x1_4, x1_5⟩ : _ := ST2.out.six2 1 rfl PY.out
  go_upto_region 6 with (go_at_call 15; refine (HA.out _).mono ?_; rintro e' u3 ⟨rfl, c3⟩)
  obtain ⟨W3, hW3⟩ : ∃ W3, u3.alloc (.cells #[.int .i64 r.kind, .int .i64 r.int, .int .i64 r.scale, .string (str r.text), .slice none 0 0, .slice none 0 0] 25) = W3 := ⟨_, rfl⟩
  rw [hW3]
  have ST3 : Hid (St w [⟨u1.heap.size, x, .nil, none, 0, none, 0⟩, ⟨u2.heap.size, y, .nil, none, 0, none, 0⟩, ⟨u3.heap.size, r, .nil, none, 0, none, 0⟩] W3) := by show St _ _ _; rw [← hW3]; exact (ST2.out.step c3).put2 PS.out
  clear hW3 c3
  clear x0_0 x0_1 x0_2 x0_3 x0_4 x0_5 x1_0 x1_1 x1_2 x1_3 x1_4 x1_5
  obtain ⟨x0_0, x0_1, x0_2, x0_3, x0_4, x0_5⟩ : _ := ST3.out.six2 0 rfl PX.out
  obtain ⟨x1_0, x1_1, x1_2, x1_3, x1_4, x1_5⟩ : _ := ST3.out.six2 1 rfl PY.out
  go_upto_region 7 with (go_at_call 16; refine (HM.out _).mono ?_; rintro e' u4 ⟨rfl, c4⟩)
  obtain ⟨W4, hW4⟩ : ∃ W4, u4.alloc (.cells #[.int .i64 p.kind, .int .i64 p.int, .int .i64 p.scale, .string (str p.text), .slice none 0 0, .slice none 0 0] 25) = W4 := ⟨_, rfl⟩
  rw [hW4]
  have ST4 : Hid (St w [⟨u1.heap.size, x, .nil, none, 0, none, 0⟩, ⟨u2.heap.size, y, .nil, none, 0, none, 0⟩, ⟨u3.heap.size, r, .nil, none, 0, none, 0⟩, ⟨u4.heap.size, p, .nil, none, 0, none, 0⟩] W4) := by show St _ _ _; rw [← hW4]; exact (ST3.out.step c4).put2 PP.out
  clear hW4 c4
  clear x0_0 x0_1 x0_2 x0_3 x0_4 x0_5 x1_0 x1_1 x1_2 x1_3 x1_4 x1_5
  go_upto_region 8 with (go_at_call 10; refine (HS.out _).mono ?_; rintro e' u5 ⟨rfl, c5⟩)
  obtain ⟨W5, hW5⟩ : ∃ W5, u5.alloc (.cells #[.int .i64 r.kind, .int .i64 r.int, .int .i64 r.scale, .string (str r.text), .slice none 0 0, .slice none 0 0] 25) = W5 := ⟨_, rfl⟩
  rw [hW5]
  have ST5 : Hid (St w [⟨u1.heap.size, x, .nil, none, 0, none, 0⟩, ⟨u2.heap.size, y, .nil, none, 0, none, 0⟩, ⟨u3.heap.size, r, .nil, none, 0, none, 0⟩, ⟨u4.heap.size, p, .nil, none, 0, none, 0⟩, ⟨u5.heap.size, r, .nil, none, 0, none, 0⟩] W5) := by show St _ _ _; rw [← hW5]; exact (ST4.out.step c5).put2 PS.out
  clear hW5 c5
  go_upto_region 9 with (go_at_call 10; refine (HP.out _).mono ?_; rintro e' u6 ⟨rfl, c6⟩)
  obtain ⟨W6, hW6⟩ : ∃ W6, u6.alloc (.cells #[.int .i64 p.kind, .int .i64 p.int, .int .i64 p.scale, .string (str p.text), .slice none 0 0, .slice none 0 0] 25) = W6 := ⟨_, rfl⟩
  rw [hW6]
  have ST6 : Hid (St w [⟨u1.heap.size, x, .nil, none, 0, none, 0⟩, ⟨u2.heap.size, y, .nil, none, 0, none, 0⟩, ⟨u3.heap.size, r, .nil, none, 0, none, 0⟩, ⟨u4.heap.size, p, .nil, none, 0, none, 0⟩, ⟨u5.heap.size, r, .nil, none, 0, none, 0⟩, ⟨u6.heap.size, p, .nil, none, 0, none, 0⟩] W6) := by show St _ _ _; rw [← hW6]; exact (ST5.out.step c6).put2 PP.out
  clear hW6 c6
  obtain ⟨x0_0, x0_1, x0_2, x0_3, x0_4, x0_5⟩ : _ := ST6.out.six2 0 rfl PX.out
  obtain ⟨x1_0, x1_1, x1_2, x1_3, x1_4, x1_5⟩ : _ := ST6.out.six2 1 rfl PY.out
  go_wp2_with fail
  refine (HC.out _).mono ?_
  rintro e' u7 ⟨rfl, c7⟩
  have ST7 : Hid (St w [⟨u1.heap.size, x, .nil, none, 0, none, 0⟩, ⟨u2.heap.size, y, .nil, none, 0, none, 0⟩, ⟨u3.heap.size, r, .nil, none, 0, none, 0⟩, ⟨u4.heap.size, p, .nil, none, 0, none, 0⟩, ⟨u5.heap.size, r, .nil, none, 0, none, 0⟩, ⟨u6.heap.size, p, .nil, none, 0, none, 0⟩] u7) := ST6.out.step c7
  clear c7
  clear x0_0 x0_1 x0_2 x0_3 x0_4 x0_5 x1_0 x1_1 x1_2 x1_3 x1_4 x1_5
  obtain ⟨x2_0, x2_1, x2_2, x2_3, x2_4, x2_5⟩ : _ := ST7.out.six2 2 rfl PS.out
  obtain ⟨x4_0, x4_1, x4_2, x4_3, x4_4, x4_5⟩ : _ := ST7.out.six2 4 rfl PS.out
  go_wp2_with fail
  refine (HES.out _).mono ?_
  rintro e' u8 ⟨rfl, c8⟩
  have ST8 : Hid (St w [⟨u1.heap.size, x, .nil, none, 0, none, 0⟩, ⟨u2.heap.size, y, .nil, none, 0, none, 0⟩, ⟨u3.heap.size, r, .nil, none, 0, none, 0⟩, ⟨u4.heap.size, p, .nil, none, 0, none, 0⟩, ⟨u5.heap.size, r, .nil, none, 0, none, 0⟩, ⟨u6.heap.size, p, .nil, none, 0, none, 0⟩] u8) := ST7.out.step c8
  clear c8
  clear x2_0 x2_1 x2_2 x2_3 x2_4 x2_5 x4_0 x4_1 x4_2 x4_3 x4_4 x4_5
  obtain ⟨x3_0, x3_1, x3_2, x3_3, x3_4, x3_5⟩ : _ := ST8.out.six2 3 rfl PP.out
  obtain ⟨x5_0, x5_1, x5_2, x5_3, x5_4, x5_5⟩ : _ := ST8.out.six2 5 rfl PP.out
  go_wp2_with fail
  refine (HEP.out _).mono ?_
  rintro e' u9 ⟨rfl, c9⟩
  have ST9 : Hid (St w [⟨u1.heap.size, x, .nil, none, 0, none, 0⟩, ⟨u2.heap.size, y, .nil, none, 0, none, 0⟩, ⟨u3.heap.size, r, .nil, none, 0, none, 0⟩, ⟨u4.heap.size, p, .nil, none, 0, none, 0⟩, ⟨u5.heap.size, r, .nil, none, 0, none, 0⟩, ⟨u6.heap.size, p, .nil, none, 0, none, 0⟩] u9) := ST8.out.step c9
  clear c9
  clear x3_0 x3_1 x3_2 x3_3 x3_4 x3_5 x5_0 x5_1 x5_2 x5_3 x5_4 x5_5
  rcases HT.out with ⟨rfl, hq⟩ | ⟨rfl, hq⟩ | ⟨rfl, hq⟩
  · clear HT
    have q1 : (n == m) = false := by simp; omega
    go_wp2_with fail
    refine (HK.out _ ST9.out.1).mono ?_
    rintro e' u10 ⟨rfl, c10⟩
    have ST10 : Hid (St w [⟨u1.heap.size, x, .nil, none, 0, none, 0⟩, ⟨u2.heap.size, y, .nil, none, 0, none, 0⟩, ⟨u3.heap.size, r, .nil, none, 0, none, 0⟩, ⟨u4.heap.size, p, .nil, none, 0, none, 0⟩, ⟨u5.heap.size, r, .nil, none, 0, none, 0⟩, ⟨u6.heap.size, p, .nil, none, 0, none, 0⟩] u10) := ST9.out.step c10
    clear c10
    go_wp2_with fail
    go_ret
    first | exact ⟨rfl, ST10.out.1⟩ | exact ⟨ret_bo (by simp; omega), ST10.out.1⟩
  · clear HT
    have q1 : (n == m) = true := by simpa using hq
    have q2 : ¬ n < m := by omega
    go_wp2_with fail
    refine (HK.out _ ST9.out.1).mono ?_
    rintro e' u10 ⟨rfl, c10⟩
    have ST10 : Hid (St w [⟨u1.heap.size, x, .nil, none, 0, none, 0⟩, ⟨u2.heap.size, y, .nil, none, 0, none, 0⟩, ⟨u3.heap.size, r, .nil, none, 0, none, 0⟩, ⟨u4.heap.size, p, .nil, none, 0, none, 0⟩, ⟨u5.heap.size, r, .nil, none, 0, none, 0⟩, ⟨u6.heap.size, p, .nil, none, 0, none, 0⟩] u10) := ST9.out.step c10
    clear c10
    go_wp2_with fail
    go_ret
    first | exact ⟨rfl, ST10.out.1⟩ | exact ⟨ret_bo (by simp; omega), ST10.out.1⟩
  · clear HT
    have q1 : (n == m) = false := by simp; omega
    have q2 : ¬ n < m := by omega
    go_wp2_with fail
    refine (HK.out _ ST9.out.1).mono ?_
    rintro e' u10 ⟨rfl, c10⟩
    have ST10 : Hid (St w [⟨u1.heap.size, x, .nil, none, 0, none, 0⟩, ⟨u2.heap.size, y, .nil, none, 0, none, 0⟩, ⟨u3.heap.size, r, .nil, none, 0, none, 0⟩, ⟨u4.heap.size, p, .nil, none, 0, none, 0⟩, ⟨u5.heap.size, r, .nil, none, 0, none, 0⟩, ⟨u6.heap.size, p, .nil, none, 0, none, 0⟩] u10) := ST9.out.step c10
    clear c10
    go_wp2_with fail
    go_ret
    first | exact ⟨rfl, ST10.out.1⟩ | exact ⟨ret_bo (by simp; omega), ST10.out.1⟩
theorem decimalSmall_any (n m s : Int) (hn : I64 n) (hm : I64 m) (hs : I64 s) (w : World) (htab : Lib.TabIs Tryd.prog w "internal/strconv.uint64pow10" .u64 Lib.pow10Tab) :
    Calls Tryd.prog 6 #[.int .i64 n, .int .i64 m, .int .i64 s] w (Ret (.bool true) w) := by
  by_cases h : n < -1073741824 ∨ 1073741824 < n ∨ m < -1073741824 ∨ 1073741824 < m ∨ s < 0 ∨ 9 < s
  · exact decimalSmall_out n m s hn hm hs w htab h
  · exact decimalSmall_in n m s hn hm hs w htab (by omega) (by omega) (by omega) (by omega) (by omega) (by omega)
end Go.Proofs.YtfcbcbpnlnkpcaaDoor

/- value.numbers: the order of two numbers. -/
import Derived.Test.YtfcbcbpnlnkpcaaQCmp
import Derived.Test.YtfcbcbpnlnkpcaaQMul64
import Derived.Test.YtfcbcbpnlnkpcaaQBase
import Derived.Deep.QuietTactic
import Derived.BigQuiet
import Derived.IntWalk
namespace Go.Proofs.Ytfcbcbpnlnkpcaa
set_option linter.all false
open Go.RowKit
theorem RetS.q {P : Program} {f : FuncId} {args : Array Value} {w : World} {v : Value} (h : Calls P f args w (RetS v w)) : Calls P f args w fun e w' => e = .returned v ∧ w' = w := h.mono fun _ _ ⟨a, b⟩ => ⟨a, b.symm⟩
theorem cmpI_mul {a b c : Int} (h : 0 < c) : cmpI (a * c) (b * c) = cmpI a b := by
  have h1 : a * c < b * c ↔ a < b := Int.mul_lt_mul_right h
  have h2 : b * c < a * c ↔ b < a := Int.mul_lt_mul_right h
  unfold cmpI
  simp only [h1, h2]
theorem pow10_pos (n : Nat) : (0 : Int) < 10 ^ n := Int.pow_pos (by decide)
/-- Two numbers, made ones of as many digits. -/
theorem nV_cmp {i s j t u : Int} (hs : 0 ≤ s) (ht : 0 ≤ t) (hsu : s ≤ u) (htu : t ≤ u) (hu : u ≤ 18) : cmpI (i * 10 ^ (u - s).toNat) (j * 10 ^ (u - t).toNat) = cmpI (nV i s) (nV j t) := by
  unfold nV
  have e1 : (18 - s).toNat = (u - s).toNat + (18 - u).toNat := by omega
  have e2 : (18 - t).toNat = (u - t).toNat + (18 - u).toNat := by omega
  rw [e1, e2, Int.pow_add, Int.pow_add, ← Int.mul_assoc, ← Int.mul_assoc, cmpI_mul (pow10_pos _)]
theorem cmpI_negs (a b : Int) : cmpI (-a) (-b) = -(cmpI a b) := by unfold cmpI; (repeat' split) <;> omega
theorem cmpI_hl (x y : Nat) : orI (cmpI ((x / 18446744073709551616 : Nat) : Int) ((y / 18446744073709551616 : Nat) : Int)) (cmpI ((x % 18446744073709551616 : Nat) : Int) ((y % 18446744073709551616 : Nat) : Int)) = cmpI (x : Int) (y : Int) := by
  unfold orI cmpI
  (repeat' split) <;> omega
theorem nV_sign {i s j t : Int} (h : (i < 0 ∧ 0 ≤ j) ∨ (0 ≤ i ∧ j < 0)) : cmpI (nV i s) (nV j t) = cmpI i j := by
  unfold nV
  have p := pow10_pos (18 - s).toNat
  have q := pow10_pos (18 - t).toNat
  rcases h with ⟨h1, h2⟩ | ⟨h1, h2⟩
  · have a : i * 10 ^ (18 - s).toNat < 0 := Int.mul_neg_of_neg_of_pos h1 p
    have b : 0 ≤ j * 10 ^ (18 - t).toNat := Int.mul_nonneg h2 (by omega)
    unfold cmpI; rw [if_pos (by omega), if_pos (by omega)]
  · have a : 0 ≤ i * 10 ^ (18 - s).toNat := Int.mul_nonneg h1 (by omega)
    have b : j * 10 ^ (18 - t).toNat < 0 := Int.mul_neg_of_neg_of_pos h2 q
    unfold cmpI; rw [if_neg (by omega), if_pos (by omega), if_neg (by omega), if_pos (by omega)]
theorem natAbs_mul_cast {i : Int} {d : Nat} (h : 0 ≤ i) : ((i.natAbs * 10 ^ d : Nat) : Int) = i * 10 ^ d := by
  rw [Int.natCast_mul, Int.natCast_pow, Int.natAbs_of_nonneg h]; rfl
theorem natAbs_mul_cast' {i : Int} {d : Nat} (h : i < 0) : ((i.natAbs * 10 ^ d : Nat) : Int) = -(i * 10 ^ d) := by
  rw [Int.natCast_mul, Int.natCast_pow, Int.ofNat_natAbs_of_nonpos (by omega), Int.neg_mul]; rfl
theorem tensI_any (x : Int) (h0 : 0 ≤ x) (h : x ≤ 18) (w : World) : Calls Try.prog 60 #[.int .i64 x] w (RetS (.int .u64 ((10 ^ x.toNat : Nat) : Int)) w) := by
  have := tens_any x.toNat (by omega) w
  rwa [show ((x.toNat : Nat) : Int) = x by omega] at this
theorem mul64_abs (a x : Int) (ha : I64 a) (h0 : 0 ≤ x) (h : x ≤ 18) (w : World) :
    Calls Try.prog 58 #[.int .u64 (a.natAbs : Int), .int .u64 ((10 ^ x.toNat : Nat) : Int)] w (RetS (.tuple #[.int .u64 ((a.natAbs * 10 ^ x.toNat / 18446744073709551616 : Nat) : Int), .int .u64 ((a.natAbs * 10 ^ x.toNat % 18446744073709551616 : Nat) : Int)]) w) :=
  mul64_any _ _ (by obtain ⟨h1, h2⟩ := ha; omega) (by have : 10 ^ x.toNat ≤ 10 ^ 18 := Nat.pow_le_pow_right (by omega) (by omega); omega) w
/-- What becomes of the two numbers behind their signs. -/
theorem numb_fin {a b sa sb u : Int} (hs : 0 ≤ sa) (ht : 0 ≤ sb) (hsu : sa ≤ u) (htu : sb ≤ u) (hu : u ≤ 18) (h : (a < 0 ∧ b < 0) ∨ (0 ≤ a ∧ 0 ≤ b)) :
    cmpI (nV a sa) (nV b sb) = (if a < 0 then -(cmpI ((a.natAbs * 10 ^ (u - sa).toNat : Nat) : Int) ((b.natAbs * 10 ^ (u - sb).toNat : Nat) : Int)) else cmpI ((a.natAbs * 10 ^ (u - sa).toNat : Nat) : Int) ((b.natAbs * 10 ^ (u - sb).toNat : Nat) : Int)) := by
  rw [← nV_cmp hs ht hsu htu hu]
  rcases h with ⟨h1, h2⟩ | ⟨h1, h2⟩
  · rw [if_pos h1, natAbs_mul_cast' h1, natAbs_mul_cast' h2, cmpI_negs, Int.neg_neg]
  · rw [if_neg (by omega), natAbs_mul_cast h1, natAbs_mul_cast h2]
/-- The walk, where both are of one sign; s is the greater scale, d and f what lacks to it. -/
def NumHyp (a b d f : Int) (A B p q h1 l1 h2 l2 : Nat) : Prop :=
  (∀ w, Calls Try.prog 59 #[.int .i64 a] w (RetS (.int .u64 (A : Int)) w)) ∧ (∀ w, Calls Try.prog 59 #[.int .i64 b] w (RetS (.int .u64 (B : Int)) w)) ∧
  (∀ w, Calls Try.prog 60 #[.int .i64 d] w (RetS (.int .u64 (p : Int)) w)) ∧ (∀ w, Calls Try.prog 60 #[.int .i64 f] w (RetS (.int .u64 (q : Int)) w)) ∧
  (∀ w, Calls Try.prog 58 #[.int .u64 (A : Int), .int .u64 (p : Int)] w (RetS (.tuple #[.int .u64 (h1 : Int), .int .u64 (l1 : Int)]) w)) ∧
  (∀ w, Calls Try.prog 58 #[.int .u64 (B : Int), .int .u64 (q : Int)] w (RetS (.tuple #[.int .u64 (h2 : Int), .int .u64 (l2 : Int)]) w))
theorem numHyp (a b d f : Int) (ha : I64 a) (hb : I64 b) (d0 : 0 ≤ d) (d1 : d ≤ 18) (f0 : 0 ≤ f) (f1 : f ≤ 18) :
    NumHyp a b d f a.natAbs b.natAbs (10 ^ d.toNat) (10 ^ f.toNat) (a.natAbs * 10 ^ d.toNat / 18446744073709551616) (a.natAbs * 10 ^ d.toNat % 18446744073709551616) (b.natAbs * 10 ^ f.toNat / 18446744073709551616) (b.natAbs * 10 ^ f.toNat % 18446744073709551616) :=
  ⟨fun w => abs_any a ha w, fun w => abs_any b hb w, fun w => tensI_any d d0 d1 w, fun w => tensI_any f f0 f1 w, fun w => mul64_abs a d ha d0 d1 w, fun w => mul64_abs b f hb f0 f1 w⟩
set_option maxRecDepth 100000 in
set_option maxHeartbeats 3200000 in
theorem numb_walk (n m : Nd) (An Ak Bn Bk : Option Addr) (cn kl ck dn ql dk : Nat) (w : World) (d f c0 : Int) (A B p q h1 l1 h2 l2 : Nat) (s1 : 0 ≤ n.scale) (s2 : n.scale ≤ 18) (t1 : 0 ≤ m.scale) (t2 : m.scale ≤ 18)
    (hsg : (n.int < 0 ∧ m.int < 0) ∨ (¬ n.int < 0 ∧ ¬ m.int < 0)) (hd : (n.scale < m.scale ∧ d = m.scale - n.scale ∧ f = 0) ∨ (n.scale = m.scale ∧ d = 0 ∧ f = 0) ∨ (m.scale < n.scale ∧ d = 0 ∧ f = n.scale - m.scale))
    (HN : Hid (NumHyp n.int m.int d f A B p q h1 l1 h2 l2)) (HL : Hid (orI (cmpI (h1 : Int) (h2 : Int)) (cmpI (l1 : Int) (l2 : Int)) = c0)) (hc : -1 ≤ c0 ∧ c0 ≤ 1) :
    Calls Try.prog 41 #[.agg (ncells n An cn Ak kl ck).toArray, .agg (ncells m Bn dn Bk ql dk).toArray] w (Ret (.int .i64 (if n.int < 0 then -c0 else c0)) w) := by
  unfold ncells
  generalize n.int = a at *
  generalize m.int = b at *
  generalize n.scale = sa at *
  generalize m.scale = sb at *
  generalize hW : (w.alloc (.cells #[.int .i64 n.kind, .int .i64 a, .int .i64 sa, .string (str n.text), .slice An n.names.length cn, .slice Ak kl ck] 25)).alloc (.cells #[.int .i64 m.kind, .int .i64 b, .int .i64 sb, .string (str m.text), .slice Bn m.names.length dn, .slice Bk ql dk] 25) = W
  have hbb : Below w.heap.size w W := by rw [← hW]; exact ((Below.refl _ _).alloc (Nat.le_refl _) _).alloc (by simp) _
  have b1 : Blk W w.heap.size #[.int .i64 n.kind, .int .i64 a, .int .i64 sa, .string (str n.text), .slice An n.names.length cn, .slice Ak kl ck] 25 := by rw [← hW]; exact (Blk.new w _ _).alloc _
  have b2 : Blk W (w.heap.size + 1) #[.int .i64 m.kind, .int .i64 b, .int .i64 sb, .string (str m.text), .slice Bn m.names.length dn, .slice Bk ql dk] 25 := by
    rw [← hW]; have := Blk.new (w.alloc (.cells #[.int .i64 n.kind, .int .i64 a, .int .i64 sa, .string (str n.text), .slice An n.names.length cn, .slice Ak kl ck] 25)) #[.int .i64 m.kind, .int .i64 b, .int .i64 sb, .string (str m.text), .slice Bn m.names.length dn, .slice Bk ql dk] 25
    simpa using this
  have x1 : W.cell? ⟨w.heap.size, 1, none⟩ = some (.int .i64 a) := b1.cell 1
  have x2 : W.cell? ⟨w.heap.size, 2, none⟩ = some (.int .i64 sa) := b1.cell 2
  have y1 : W.cell? ⟨w.heap.size + 1, 1, none⟩ = some (.int .i64 b) := b2.cell 1
  have y2 : W.cell? ⟨w.heap.size + 1, 2, none⟩ = some (.int .i64 sb) := b2.cell 2
  have HB := Lib.hid hbb
  have hws : w.heap.size + 1 < W.heap.size := b2.lt
  clear hbb b1 b2
  rcases hsg with ⟨ha, hb⟩ | ⟨ha, hb⟩
  all_goals
    rcases hd with ⟨hs, rfl, rfl⟩ | ⟨rfl, rfl, rfl⟩ | ⟨hs, rfl, rfl⟩
  all_goals
    go_enter Try.func41, Try.ntmps41
    go_wp2_with fail
    go_quiet ((first
      | (go_at_call 59; exact Calls.quiet_of_same (RetS.q (HN.out.1 _)))
      | (go_at_call 60; exact Calls.quiet_of_same (RetS.q (HN.out.2.2.1 _)))
      | (go_at_call 58; exact Calls.quiet_of_same (RetS.q (HN.out.2.2.2.2.1 _)))))
    go_wp2_with fail
    generalize hW2 : World.drewN W nq = W2
    have x1' : W2.cell? ⟨w.heap.size, 1, none⟩ = W.cell? ⟨w.heap.size, 1, none⟩ := by rw [← hW2]; rfl
    rw [x1] at x1'
    have y1' : W2.cell? ⟨w.heap.size + 1, 1, none⟩ = W.cell? ⟨w.heap.size + 1, 1, none⟩ := by rw [← hW2]; rfl
    rw [y1] at y1'
    have y2' : W2.cell? ⟨w.heap.size + 1, 2, none⟩ = W.cell? ⟨w.heap.size + 1, 2, none⟩ := by rw [← hW2]; rfl
    rw [y2] at y2'
    have hws' : w.heap.size + 1 < W2.heap.size := by rw [← hW2]; exact hws
    have HB2 : Hid (Below w.heap.size w W2) := by show Below _ _ _; rw [← hW2]; exact below_drewN HB.out _
    clear hW2
    go_quiet ((first
      | (go_at_call 59; exact Calls.quiet_of_same (RetS.q (HN.out.2.1 _)))
      | (go_at_call 60; exact Calls.quiet_of_same (RetS.q (HN.out.2.2.2.1 _)))
      | (go_at_call 58; exact Calls.quiet_of_same (RetS.q (HN.out.2.2.2.2.2 _)))))
    go_wp2_with fail
    generalize hW3 : World.drewN W2 nq = W3
    have x1'' : W3.cell? ⟨w.heap.size, 1, none⟩ = W.cell? ⟨w.heap.size, 1, none⟩ := by rw [← hW3, x1]; exact x1'
    rw [x1] at x1''
    have HB3 : Hid (Below w.heap.size w W3) := by show Below _ _ _; rw [← hW3]; exact below_drewN HB2.out _
    have hws'' : w.heap.size < W3.heap.size := by rw [← hW3]; exact Nat.lt_of_succ_lt hws'
    clear hW3
    refine (cmpU64_any (h1 : Int) (h2 : Int) _).mono ?_
    rintro e w1 ⟨rfl, rfl⟩
    go_wp2_with fail
    refine (cmpU64_any (l1 : Int) (l2 : Int) _).mono ?_
    rintro e w1 ⟨rfl, rfl⟩
    go_wp2_with fail
    refine (or2_any _ (cmpI (h1 : Int) (h2 : Int)) (cmpI (l1 : Int) (l2 : Int)) _ ((Blk.new W3 _ _).cell 0) ((Blk.new W3 _ _).cell 1)).mono ?_
    rintro e w1 ⟨rfl, rfl⟩
    rw [HL.out]
    go_wp2_with fail
    go_ret
    exact ⟨ret_i (by omega), HB3.out.alloc (by omega) _⟩
theorem cmpI_small (a b : Int) : -1 ≤ cmpI a b ∧ cmpI a b ≤ 1 := by unfold cmpI; (repeat' split) <;> omega
set_option maxRecDepth 100000 in
set_option maxHeartbeats 3200000 in
theorem numbers_any (n m : Nd) (An Ak Bn Bk : Option Addr) (cn kl ck dn ql dk : Nat) (w : World) (hn : n.ok) (hm : m.ok) (s1 : 0 ≤ n.scale) (s2 : n.scale ≤ 18) (t1 : 0 ≤ m.scale) (t2 : m.scale ≤ 18) :
    Calls Try.prog 41 #[.agg (ncells n An cn Ak kl ck).toArray, .agg (ncells m Bn dn Bk ql dk).toArray] w (Ret (.int .i64 (cmpI (nV n.int n.scale) (nV m.int m.scale))) w) := by
  obtain ⟨_, hi, _, _, _⟩ := hn
  obtain ⟨_, hj, _, _, _⟩ := hm
  have same : ∀ (h : (n.int < 0 ∧ m.int < 0) ∨ (¬ n.int < 0 ∧ ¬ m.int < 0)), Calls Try.prog 41 #[.agg (ncells n An cn Ak kl ck).toArray, .agg (ncells m Bn dn Bk ql dk).toArray] w (Ret (.int .i64 (cmpI (nV n.int n.scale) (nV m.int m.scale))) w) := by
    intro hsg
    obtain ⟨u, d, f, hu1, hu2, hu3, hd, e1, e2⟩ : ∃ u d f : Int, n.scale ≤ u ∧ m.scale ≤ u ∧ u ≤ 18 ∧ ((n.scale < m.scale ∧ d = m.scale - n.scale ∧ f = 0) ∨ (n.scale = m.scale ∧ d = 0 ∧ f = 0) ∨ (m.scale < n.scale ∧ d = 0 ∧ f = n.scale - m.scale)) ∧ u - n.scale = d ∧ u - m.scale = f := by
      rcases Int.lt_trichotomy n.scale m.scale with h | h | h
      · exact ⟨m.scale, m.scale - n.scale, 0, by omega, by omega, by omega, .inl ⟨h, rfl, rfl⟩, by omega, by omega⟩
      · exact ⟨m.scale, 0, 0, by omega, by omega, by omega, .inr (.inl ⟨h, rfl, rfl⟩), by omega, by omega⟩
      · exact ⟨n.scale, 0, n.scale - m.scale, by omega, by omega, by omega, .inr (.inr ⟨h, rfl, rfl⟩), by omega, by omega⟩
    have HF := numb_fin (a := n.int) (b := m.int) (sa := n.scale) (sb := m.scale) (u := u) s1 t1 hu1 hu2 hu3 (by omega)
    rw [e1, e2] at HF
    rw [HF]
    exact numb_walk n m An Ak Bn Bk cn kl ck dn ql dk w d f _ _ _ _ _ _ _ _ _ s1 s2 t1 t2 hsg hd (numHyp n.int m.int d f hi hj (by omega) (by omega) (by omega) (by omega)) (cmpI_hl _ _) (cmpI_small _ _)
  have diff : ∀ (h : (n.int < 0 ∧ ¬ m.int < 0) ∨ (¬ n.int < 0 ∧ m.int < 0)), Calls Try.prog 41 #[.agg (ncells n An cn Ak kl ck).toArray, .agg (ncells m Bn dn Bk ql dk).toArray] w (Ret (.int .i64 (cmpI (nV n.int n.scale) (nV m.int m.scale))) w) := by
    intro h
    rw [nV_sign (by omega)]
    clear same
    unfold ncells
    generalize n.int = a at *
    generalize m.int = b at *
    have hbb : Below w.heap.size w ((w.alloc (.cells #[.int .i64 n.kind, .int .i64 a, .int .i64 n.scale, .string (str n.text), .slice An n.names.length cn, .slice Ak kl ck] 25)).alloc (.cells #[.int .i64 m.kind, .int .i64 b, .int .i64 m.scale, .string (str m.text), .slice Bn m.names.length dn, .slice Bk ql dk] 25)) := ((Below.refl _ _).alloc (Nat.le_refl _) _).alloc (by simp) _
    have HB := Lib.hid hbb
    clear hbb hi hj
    rcases h with ⟨ha, hb⟩ | ⟨ha, hb⟩
    all_goals
      go_enter Try.func41, Try.ntmps41
      go_wp2_with fail
      refine (cmpInt_any a b _).mono ?_
      rintro e w1 ⟨rfl, rfl⟩
      go_wp2_with fail
      go_ret
      exact ⟨rfl, HB.out⟩
  by_cases ha : n.int < 0 <;> by_cases hb : m.int < 0
  · exact same (.inl ⟨ha, hb⟩)
  · exact diff (.inl ⟨ha, hb⟩)
  · exact diff (.inr ⟨ha, hb⟩)
  · exact same (.inr ⟨ha, hb⟩)
end Go.Proofs.Ytfcbcbpnlnkpcaa

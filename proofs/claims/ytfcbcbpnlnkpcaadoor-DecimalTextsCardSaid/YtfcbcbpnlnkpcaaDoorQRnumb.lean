/- scrivenerref5.sign, texts, class, Abs, Ten, numbers. -/
import Derived.Test.YtfcbcbpnlnkpcaaDoorQNumb
import Derived.Test.YtfcbcbpnlnkpcaaDoorQComparep
namespace Go.Proofs.YtfcbcbpnlnkpcaaDoor
set_option linter.all false
open Go.RowKit
set_option maxHeartbeats 400000 in
theorem rsign_any (a b : Int) (w : World) : Calls Tryd.prog 62 #[.int .i64 a, .int .i64 b] w (RetS (.int .i64 (cmpI a b)) w) := by
  rcases Int.lt_trichotomy a b with h | h | h
  · have H : Hid (cmpI a b = -1) := if_pos h
    go_enter Tryd.func62, Tryd.ntmps62
    go_wp2
    go_ret
    exact ⟨ret_i (by rw [H.out]), rfl⟩
  · subst h
    have H : Hid (cmpI a a = 0) := cmpI_self a
    go_enter Tryd.func62, Tryd.ntmps62
    go_wp2
    go_ret
    exact ⟨ret_i (by rw [H.out]), rfl⟩
  · have H : Hid (cmpI a b = 1) := by show _ = _; unfold cmpI; rw [if_neg (by omega), if_pos h]
    have h' : ¬ a < b := by omega
    go_enter Tryd.func62, Tryd.ntmps62
    go_wp2
    go_ret
    exact ⟨ret_i (by rw [H.out]), rfl⟩
set_option maxHeartbeats 400000 in
theorem rtexts_any (a b : List UInt8) (w : World) : Calls Tryd.prog 64 #[.string (str a), .string (str b)] w (RetS (.int .i64 (cmpB a b)) w) := by
  have ea : Hid ((str a).toList = a) := str_toList a
  have eb : Hid ((str b).toList = b) := str_toList b
  rcases bytes_tri a b with ⟨h1, h2⟩ | ⟨h1, h2, h3⟩ | ⟨h1, h2, h3⟩
  · have H := Lib.hid h2
    have h1' : Op.bytesLess (str a).toList (str b).toList = true := by rw [ea.out, eb.out]; exact h1
    clear h1 h2
    go_enter Tryd.func64, Tryd.ntmps64
    go_wp2
    go_ret
    exact ⟨ret_i (by rw [H.out]), rfl⟩
  · subst h2
    have H := Lib.hid h3
    have h1' : Op.bytesLess (str a).toList (str a).toList = false := by rw [ea.out]; exact h1
    have ra : ((str a).toList == (str a).toList) = true := by simp
    clear h1 h3
    go_enter Tryd.func64, Tryd.ntmps64
    go_wp2
    go_ret
    exact ⟨ret_i (by rw [H.out]), rfl⟩
  · have H := Lib.hid h3
    have h1' : Op.bytesLess (str a).toList (str b).toList = false := by rw [ea.out, eb.out]; exact h1
    have h2' : ((str a).toList == (str b).toList) = false := by rw [ea.out, eb.out]; exact h2
    clear h1 h2 h3
    go_enter Tryd.func64, Tryd.ntmps64
    go_wp2
    go_ret
    exact ⟨ret_i (by rw [H.out]), rfl⟩
set_option maxHeartbeats 400000 in
theorem rclass_any (k : Int) (w : World) : Calls Tryd.prog 61 #[.int .i64 k] w (RetS (.int .i64 (cls k)) w) := by
  by_cases h : k = 4
  · subst h
    go_enter Tryd.func61, Tryd.ntmps61
    go_wp2
    go_ret
    exact ⟨rfl, rfl⟩
  · have H : Hid (cls k = k) := if_neg h
    have q : (k == 4) = false := by simpa using h
    clear h
    go_enter Tryd.func61, Tryd.ntmps61
    go_wp2
    go_ret
    exact ⟨ret_i (by rw [H.out]), rfl⟩
set_option maxHeartbeats 400000 in
theorem rabs_any (a : Int) (h : I64 a) (w : World) : Calls Tryd.prog 44 #[.int .i64 a] w (RetS (.int .u64 (a.natAbs : Int)) w) := by
  obtain ⟨h1, h2⟩ := h
  by_cases h0 : a < 0
  · go_enter Tryd.func44, Tryd.ntmps44
    go_wp2
    go_ret
    exact ⟨ret_i (by omega), rfl⟩
  · go_enter Tryd.func44, Tryd.ntmps44
    go_wp2
    go_ret
    exact ⟨ret_i (by omega), rfl⟩
set_option maxHeartbeats 400000 in
theorem rten_any (n : Nat) (hn : n ≤ 19) (w : World) : Calls Tryd.prog 41 #[.int .i64 n] w (RetS (.int .u64 ((10 ^ n : Nat) : Int)) w) := by
  go_enter Tryd.func41, Tryd.ntmps41
  go_wp2
  go_loop [3, 4] (fun p i => ∃ k x : Nat, k ≤ n ∧ i = .int .i64 k ∧ p = .int .u64 (x : Int) ∧ Hid (x = 10 ^ k)) (fun _ i => n - (intOf i).toNat)
  case atStart => exact ⟨0, 1, Nat.zero_le _, rfl, rfl, rfl⟩
  case round =>
    obtain ⟨k, x, hk, rfl, rfl, HX⟩ := hrel
    by_cases hlt : k < n
    · have hx : x ≤ 1000000000000000000 := by rw [HX.out]; have : 10 ^ k ≤ 10 ^ 18 := Nat.pow_le_pow_right (by omega) (by omega); omega
      have HN : Hid (x * 10 = 10 ^ (k + 1)) := by show _ = _; rw [HX.out, Nat.pow_succ]
      clear HX
      go_wp2
      go_round
      case rel => exact ⟨k + 1, x * 10, by omega, by go_num, congrArg (Value.int .u64) (by omega), HN⟩
      case measure => simp [intOf]; omega
    · obtain rfl : k = n := by omega
      go_wp2
      go_ret
      exact ⟨ret_i (by rw [HX.out]; simp), rfl⟩
theorem rtenI_any (x : Int) (h0 : 0 ≤ x) (h : x ≤ 19) (w : World) : Calls Tryd.prog 41 #[.int .i64 x] w (RetS (.int .u64 ((10 ^ x.toNat : Nat) : Int)) w) := by
  have := rten_any x.toNat (by omega) w
  rwa [show ((x.toNat : Nat) : Int) = x by omega] at this
theorem nV_cross {i s j t : Int} (hs : 0 ≤ s) (hs' : s ≤ 18) (ht : 0 ≤ t) (ht' : t ≤ 18) : cmpI (i * 10 ^ t.toNat) (j * 10 ^ s.toNat) = cmpI (nV i s) (nV j t) := by
  unfold nV
  rw [← cmpI_mul (pow10_pos 18) (a := i * 10 ^ t.toNat), ← cmpI_mul (pow10_pos (s.toNat + t.toNat)) (a := i * 10 ^ (18 - s).toNat)]
  rw [Int.mul_assoc, Int.mul_assoc, Int.mul_assoc, Int.mul_assoc, ← Int.pow_add, ← Int.pow_add, ← Int.pow_add, ← Int.pow_add]
  rw [show t.toNat + 18 = (18 - s).toNat + (s.toNat + t.toNat) by omega, show s.toNat + 18 = (18 - t).toNat + (s.toNat + t.toNat) by omega]
theorem nV_zero (s : Int) : nV 0 s = 0 := by unfold nV; simp
theorem nV_pos {i s : Int} (h : 0 < i) : 0 < nV i s := by unfold nV; exact Int.mul_pos h (pow10_pos _)
theorem nV_neg {i s : Int} (h : i < 0) : nV i s < 0 := by unfold nV; exact Int.mul_neg_of_neg_of_pos h (pow10_pos _)
theorem cmpI_sgn (a : Int) : (a < 0 ∧ cmpI a 0 = -1) ∨ (a = 0 ∧ cmpI a 0 = 0) ∨ (0 < a ∧ cmpI a 0 = 1) := by
  unfold cmpI; (repeat' split) <;> omega
/-- Of two signs. -/
theorem rnum_dif {a b sa sb : Int} (h : cmpI a 0 ≠ cmpI b 0) : cmpI (nV a sa) (nV b sb) = cmpI (cmpI a 0) (cmpI b 0) := by
  rcases cmpI_sgn a with ⟨h1, e1⟩ | ⟨h1, e1⟩ | ⟨h1, e1⟩ <;> rcases cmpI_sgn b with ⟨h2, e2⟩ | ⟨h2, e2⟩ | ⟨h2, e2⟩ <;> rw [e1, e2] at h ⊢ <;> first | exact absurd rfl h | skip
  · subst h2; have := nV_neg (s := sa) h1; rw [nV_zero]; unfold cmpI; rw [if_pos this]; rfl
  · have := nV_neg (s := sa) h1; have := nV_pos (s := sb) h2; unfold cmpI; rw [if_pos (by omega)]; rfl
  · subst h1; have := nV_neg (s := sb) h2; rw [nV_zero]; unfold cmpI; rw [if_neg (by omega), if_pos this]; rfl
  · subst h1; have := nV_pos (s := sb) h2; rw [nV_zero]; unfold cmpI; rw [if_pos this]; rfl
  · have := nV_pos (s := sa) h1; have := nV_neg (s := sb) h2; unfold cmpI; rw [if_neg (by omega), if_pos (by omega)]; rfl
  · subst h2; have := nV_pos (s := sa) h1; rw [nV_zero]; unfold cmpI; rw [if_neg (by omega), if_pos this]; rfl
/-- Of one sign. -/
theorem rnum_fin {a b sa sb : Int} (hs : 0 ≤ sa) (hs' : sa ≤ 18) (ht : 0 ≤ sb) (ht' : sb ≤ 18) (h : cmpI a 0 = cmpI b 0) :
    cmpI (nV a sa) (nV b sb) = cmpI ((a.natAbs * 10 ^ sb.toNat : Nat) : Int) ((b.natAbs * 10 ^ sa.toNat : Nat) : Int) * cmpI a 0 := by
  rw [← nV_cross hs hs' ht ht']
  rcases cmpI_sgn a with ⟨h1, e1⟩ | ⟨h1, e1⟩ | ⟨h1, e1⟩ <;> rcases cmpI_sgn b with ⟨h2, e2⟩ | ⟨h2, e2⟩ | ⟨h2, e2⟩ <;> rw [e1, e2] at h <;> first | exact absurd h (by decide) | skip
  · rw [natAbs_mul_cast' h1, natAbs_mul_cast' h2, cmpI_negs, e1]; omega
  · subst h1; subst h2; simp; rfl
  · rw [natAbs_mul_cast (by omega), natAbs_mul_cast (by omega), e1]; omega
theorem cmpI_lt {a b : Int} (h : a < b) : cmpI a b = -1 := if_pos h
theorem cmpI_gt {a b : Int} (h : b < a) : cmpI a b = 1 := by unfold cmpI; rw [if_neg (by omega), if_pos h]
theorem orI_lt {a b x : Int} (h : a < b) : orI (cmpI a b) x = -1 := by rw [cmpI_lt h]; rfl
theorem orI_gt {a b x : Int} (h : b < a) : orI (cmpI a b) x = 1 := by rw [cmpI_gt h]; rfl
theorem orI_eq {a b x : Int} (h : a = b) : orI (cmpI a b) x = x := by rw [h, cmpI_self]; rfl
def RNumHyp (a b sa sb : Int) (A B p q h1 l1 h2 l2 : Nat) : Prop :=
  (∀ w, Calls Tryd.prog 44 #[.int .i64 a] w (RetS (.int .u64 (A : Int)) w)) ∧ (∀ w, Calls Tryd.prog 44 #[.int .i64 b] w (RetS (.int .u64 (B : Int)) w)) ∧
  (∀ w, Calls Tryd.prog 41 #[.int .i64 sb] w (RetS (.int .u64 (p : Int)) w)) ∧ (∀ w, Calls Tryd.prog 41 #[.int .i64 sa] w (RetS (.int .u64 (q : Int)) w)) ∧
  (∀ w, Calls Tryd.prog 38 #[.int .u64 (A : Int), .int .u64 (p : Int)] w (RetS (.tuple #[.int .u64 (h1 : Int), .int .u64 (l1 : Int)]) w)) ∧
  (∀ w, Calls Tryd.prog 38 #[.int .u64 (B : Int), .int .u64 (q : Int)] w (RetS (.tuple #[.int .u64 (h2 : Int), .int .u64 (l2 : Int)]) w))
theorem rnumHyp (a b d f : Int) (ha : I64 a) (hb : I64 b) (d0 : 0 ≤ d) (d1 : d ≤ 18) (f0 : 0 ≤ f) (f1 : f ≤ 18) :
    RNumHyp a b d f a.natAbs b.natAbs (10 ^ f.toNat) (10 ^ d.toNat) (a.natAbs * 10 ^ f.toNat / 18446744073709551616) (a.natAbs * 10 ^ f.toNat % 18446744073709551616) (b.natAbs * 10 ^ d.toNat / 18446744073709551616) (b.natAbs * 10 ^ d.toNat % 18446744073709551616) :=
  ⟨fun w => rabs_any a ha w, fun w => rabs_any b hb w, fun w => rtenI_any f f0 (by omega) w, fun w => rtenI_any d d0 (by omega) w, fun w => mul64_abs a f ha f0 f1 w, fun w => mul64_abs b d hb d0 d1 w⟩
set_option maxRecDepth 100000 in
set_option maxHeartbeats 6400000 in
theorem rnumb_walk (n m : Nd) (An Ak Bn Bk : Option Addr) (cn kl ck dn ql dk : Nat) (w : World) (c0 : Int) (A B p q h1 l1 h2 l2 : Nat)
    (HN : Hid (RNumHyp n.int m.int n.scale m.scale A B p q h1 l1 h2 l2)) (HL : Hid (orI (cmpI (h1 : Int) (h2 : Int)) (cmpI (l1 : Int) (l2 : Int)) = c0)) (C : Int) (HC : Hid (C = if cmpI n.int 0 = cmpI m.int 0 then c0 * cmpI n.int 0 else cmpI (cmpI n.int 0) (cmpI m.int 0))) :
    Calls Tryd.prog 63 #[.agg (ncells n An cn Ak kl ck).toArray, .agg (ncells m Bn dn Bk ql dk).toArray] w (Ret (.int .i64 C) w) := by
  unfold ncells
  generalize n.int = a at *
  generalize m.int = b at *
  generalize n.scale = sa at *
  generalize m.scale = sb at *
  generalize hW : (w.alloc (.cells #[.int .i64 n.kind, .int .i64 a, .int .i64 sa, .string (str n.text), .slice An n.names.length cn, .slice Ak kl ck] 25)).alloc (.cells #[.int .i64 m.kind, .int .i64 b, .int .i64 sb, .string (str m.text), .slice Bn m.names.length dn, .slice Bk ql dk] 25) = W
  have hbb : Below w.heap.size w W := by rw [← hW]; exact ((Below.refl _ _).alloc (Nat.le_refl _) _).alloc (by simp) _
  have b1 : Blk W w.heap.size #[.int .i64 n.kind, .int .i64 a, .int .i64 sa, .string (str n.text), .slice An n.names.length cn, .slice Ak kl ck] 25 := by rw [← hW]; exact (Blk.new w _ _).alloc _
  have b2 : Blk W (w.heap.size + 1) #[.int .i64 m.kind, .int .i64 b, .int .i64 sb, .string (str m.text), .slice Bn m.names.length dn, .slice Bk ql dk] 25 := by
    rw [← hW]; have := Blk.new (w.alloc (.cells #[.int .i64 n.kind, .int .i64 a, .int .i64 sa, .string (str n.text), .slice An n.names.length cn, .slice Ak kl ck] 25)) #[.int .i64 m.kind, .int .i64 b, .int .i64 sb, .string (str m.text), .slice Bn m.names.length dn, .slice Bk ql dk] 25
    simpa using this
  have x1 : W.cell? ⟨w.heap.size, 1, none⟩ = some (.int .i64 a) := b1.cell 1
  have x2 : W.cell? ⟨w.heap.size, 2, none⟩ = some (.int .i64 sa) := b1.cell 2
  have y1 : W.cell? ⟨w.heap.size + 1, 1, none⟩ = some (.int .i64 b) := b2.cell 1
  have y2 : W.cell? ⟨w.heap.size + 1, 2, none⟩ = some (.int .i64 sb) := b2.cell 2
  have HB := Lib.hid hbb
  have hws : w.heap.size + 1 < W.heap.size := b2.lt
  clear hbb b1 b2
  have hs1 := (cmpI_small a 0).1
  have hs2 := (cmpI_small a 0).2
  have ht1 := (cmpI_small b 0).1
  have ht2 := (cmpI_small b 0).2
  by_cases hst : cmpI a 0 = cmpI b 0
  · have HCC : Hid (C = c0 * cmpI a 0) := by show _ = _; rw [HC.out, if_pos hst]
    have HST := Lib.hid hst
    have q0 : (cmpI a 0 != cmpI b 0) = false := by simpa using hst
    clear hst
    go_enter Tryd.func63, Tryd.ntmps63
    go_wp2_with fail
    go_quiet ((go_at_call 62; exact Calls.quiet_of_same (RetS.q (rsign_any _ _ _))))
    go_wp2_with fail
    generalize hW2 : World.drewN W nq = W2
    have x1' : W2.cell? ⟨w.heap.size, 1, none⟩ = W.cell? ⟨w.heap.size, 1, none⟩ := by rw [← hW2]; rfl
    have x2' : W2.cell? ⟨w.heap.size, 2, none⟩ = W.cell? ⟨w.heap.size, 2, none⟩ := by rw [← hW2]; rfl
    have y1' : W2.cell? ⟨w.heap.size + 1, 1, none⟩ = W.cell? ⟨w.heap.size + 1, 1, none⟩ := by rw [← hW2]; rfl
    have y2' : W2.cell? ⟨w.heap.size + 1, 2, none⟩ = W.cell? ⟨w.heap.size + 1, 2, none⟩ := by rw [← hW2]; rfl
    rw [x1] at x1'
    rw [x2] at x2'
    rw [y1] at y1'
    rw [y2] at y2'
    have HB2 : Hid (Below w.heap.size w W2) := by show Below _ _ _; rw [← hW2]; exact below_drewN HB.out _
    clear hW2 nq
    go_quiet ((first
      | (go_at_call 44; exact Calls.quiet_of_same (RetS.q (HN.out.1 _)))
      | (go_at_call 41; exact Calls.quiet_of_same (RetS.q (HN.out.2.2.1 _)))
      | (go_at_call 38; exact Calls.quiet_of_same (RetS.q (HN.out.2.2.2.2.1 _)))))
    go_wp2_with fail
    generalize hW3 : World.drewN W2 nq = W3
    have x2'' : W3.cell? ⟨w.heap.size, 2, none⟩ = W2.cell? ⟨w.heap.size, 2, none⟩ := by rw [← hW3]; rfl
    have y1'' : W3.cell? ⟨w.heap.size + 1, 1, none⟩ = W2.cell? ⟨w.heap.size + 1, 1, none⟩ := by rw [← hW3]; rfl
    rw [x2'] at x2''
    rw [y1'] at y1''
    have HB3 : Hid (Below w.heap.size w W3) := by show Below _ _ _; rw [← hW3]; exact below_drewN HB2.out _
    clear hW3 nq
    go_quiet ((first
      | (go_at_call 44; exact Calls.quiet_of_same (RetS.q (HN.out.2.1 _)))
      | (go_at_call 41; exact Calls.quiet_of_same (RetS.q (HN.out.2.2.2.1 _)))
      | (go_at_call 38; exact Calls.quiet_of_same (RetS.q (HN.out.2.2.2.2.2 _)))))
    have HB4 := Lib.hid (below_drewN HB3.out nq)
    rcases Nat.lt_trichotomy h1 h2 with hh | hh | hh
    · have HF : Hid (c0 = -1) := by show _ = _; rw [← HL.out]; exact orI_lt (by omega)
      have c1 : (h1 : Int) < (h2 : Int) := by omega
      go_wp2_with fail
      go_ret
      exact ⟨ret_i (by rw [HCC.out, HF.out, HST.out]; omega), HB4.out⟩
    · have c1 : ¬ (h1 : Int) < (h2 : Int) := by omega
      have c2 : ¬ (h2 : Int) < (h1 : Int) := by omega
      have c3 : ((h1 : Int) == (h2 : Int)) = true := by simp; omega
      rcases Nat.lt_trichotomy l1 l2 with hl | hl | hl
      · have HF : Hid (c0 = -1) := by show _ = _; rw [← HL.out, orI_eq (by omega)]; exact cmpI_lt (by omega)
        have c4 : (l1 : Int) < (l2 : Int) := by omega
        clear hh
        go_wp2_with fail
        go_ret
        exact ⟨ret_i (by rw [HCC.out, HF.out, HST.out]; omega), HB4.out⟩
      · have HF : Hid (c0 = 0) := by show _ = _; rw [← HL.out, orI_eq (by omega), show (l1 : Int) = l2 by omega]; exact cmpI_self _
        have c4 : ¬ (l1 : Int) < (l2 : Int) := by omega
        have c5 : ¬ (l2 : Int) < (l1 : Int) := by omega
        clear hh hl
        go_wp2_with fail
        go_ret
        exact ⟨ret_i (by rw [HCC.out, HF.out, HST.out]; omega), HB4.out⟩
      · have HF : Hid (c0 = 1) := by show _ = _; rw [← HL.out, orI_eq (by omega)]; exact cmpI_gt (by omega)
        have c4 : ¬ (l1 : Int) < (l2 : Int) := by omega
        have c5 : (l2 : Int) < (l1 : Int) := by omega
        clear hh
        go_wp2_with fail
        go_ret
        exact ⟨ret_i (by rw [HCC.out, HF.out, HST.out]; omega), HB4.out⟩
    · have HF : Hid (c0 = 1) := by show _ = _; rw [← HL.out]; exact orI_gt (by omega)
      have c1 : ¬ (h1 : Int) < (h2 : Int) := by omega
      have c2 : (h2 : Int) < (h1 : Int) := by omega
      have c3 : ((h1 : Int) == (h2 : Int)) = false := by simp; omega
      go_wp2_with fail
      go_ret
      exact ⟨ret_i (by rw [HCC.out, HF.out, HST.out]; omega), HB4.out⟩
  · have HR : Hid (C = cmpI (cmpI a 0) (cmpI b 0)) := by show _ = _; rw [HC.out, if_neg hst]
    have q0 : (cmpI a 0 != cmpI b 0) = true := by simpa using hst
    have q1 : (cmpI a 0 == cmpI b 0) = false := by simpa using hst
    clear hst
    go_enter Tryd.func63, Tryd.ntmps63
    go_wp2_with fail
    go_quiet ((go_at_call 62; exact Calls.quiet_of_same (RetS.q (rsign_any _ _ _))))
    have HB4 := Lib.hid (below_drewN HB.out nq)
    go_wp2_with fail
    refine (rsign_any (cmpI a 0) (cmpI b 0) _).mono ?_
    rintro e w1 ⟨rfl, rfl⟩
    go_wp2_with fail
    go_ret
    exact ⟨ret_i (by rw [HR.out]), HB4.out⟩
theorem rnumbers_any (n m : Nd) (An Ak Bn Bk : Option Addr) (cn kl ck dn ql dk : Nat) (w : World) (hn : n.ok) (hm : m.ok) (s1 : 0 ≤ n.scale) (s2 : n.scale ≤ 18) (t1 : 0 ≤ m.scale) (t2 : m.scale ≤ 18) :
    Calls Tryd.prog 63 #[.agg (ncells n An cn Ak kl ck).toArray, .agg (ncells m Bn dn Bk ql dk).toArray] w (Ret (.int .i64 (cmpI (nV n.int n.scale) (nV m.int m.scale))) w) := by
  refine rnumb_walk n m An Ak Bn Bk cn kl ck dn ql dk w (cmpI ((n.int.natAbs * 10 ^ m.scale.toNat : Nat) : Int) ((m.int.natAbs * 10 ^ n.scale.toNat : Nat) : Int)) _ _ _ _ _ _ _ _ (rnumHyp n.int m.int n.scale m.scale hn.2.1 hm.2.1 s1 s2 t1 t2) (cmpI_hl _ _) _ ?_
  show _ = _
  by_cases hst : cmpI n.int 0 = cmpI m.int 0
  · rw [if_pos hst]; exact rnum_fin s1 s2 t1 t2 hst
  · rw [if_neg hst]; exact rnum_dif hst
end Go.Proofs.YtfcbcbpnlnkpcaaDoor

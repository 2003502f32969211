/- value.compare of two values with which nothing is wrong: the order's plain law. (Printed by a small program of mine, gen/compare.py.) -/
import Derived.Test.YtfcbcbpnlnkpcaaQNumb
import Derived.Test.YtfcbcbpnlnkpcaaQEqual
namespace Go.Proofs.Ytfcbcbpnlnkpcaa
set_option linter.all false
open Go.RowKit
theorem clsV_cmp {a b : Int} (h1 : 1 ≤ a) (h2 : a ≤ 9) (h3 : 1 ≤ b) (h4 : b ≤ 9) : cmpI (clsV a) (clsV b) = cmpI (cls a) (cls b) := by
  have ha : a = 1 ∨ a = 2 ∨ a = 3 ∨ a = 4 ∨ a = 5 ∨ a = 6 ∨ a = 7 ∨ a = 8 ∨ a = 9 := by omega
  have hb : b = 1 ∨ b = 2 ∨ b = 3 ∨ b = 4 ∨ b = 5 ∨ b = 6 ∨ b = 7 ∨ b = 8 ∨ b = 9 := by omega
  rcases ha with rfl | rfl | rfl | rfl | rfl | rfl | rfl | rfl | rfl <;> rcases hb with rfl | rfl | rfl | rfl | rfl | rfl | rfl | rfl | rfl <;> decide +kernel
theorem cmpF_drop {k q : F} {us vs : List (List UInt8)} {i : Nat} {n m : Nd} {j p : F} (st : Bool) (h : k.get i = some (n, j)) (h' : q.get i = some (m, p)) :
    cmpF st (k.drop i) (us.drop i) (q.drop i) (vs.drop i) = orI (if st then cmpB ((us.drop i).headD []) ((vs.drop i).headD []) else 0) (orI (cmpV n j m p) (cmpF st (k.drop (i + 1)) (us.drop (i + 1)) (q.drop (i + 1)) (vs.drop (i + 1)))) := by
  rw [F.drop_get k i h, F.drop_get q i h']
  simp only [cmpF, List.tail_drop]
  rfl
theorem cmpF_end {k q : F} {us vs : List (List UInt8)} {i : Nat} (st : Bool) (h : i ≤ k.len) (h' : i ≤ q.len) (he : i = k.len ∨ i = q.len) :
    cmpF st (k.drop i) (us.drop i) (q.drop i) (vs.drop i) = cmpI (k.len : Int) (q.len : Int) := by
  rcases Nat.lt_or_ge i k.len with h1 | h1
  · obtain ⟨n, j, hg⟩ := F.get_lt k i h1
    rw [F.drop_get k i hg, F.drop_len q i (by omega)]
    simp only [cmpF]
    unfold cmpI; rw [if_neg (by omega), if_pos (by omega)]
  · rw [F.drop_len k i h1]
    rcases Nat.lt_or_ge i q.len with h2 | h2
    · obtain ⟨m, p, hg⟩ := F.get_lt q i h2
      rw [F.drop_get q i hg]
      simp only [cmpF]
      unfold cmpI; rw [if_pos (by omega)]
    · rw [F.drop_len q i h2]
      simp only [cmpF]
      unfold cmpI; rw [if_neg (by omega), if_neg (by omega)]
theorem headD_drop {us : List (List UInt8)} {i : Nat} {a : List UInt8} (h : us[i]? = some a) : (us.drop i).headD [] = a := by
  obtain ⟨h1, e⟩ := List.getElem?_eq_some_iff.1 h
  rw [List.drop_eq_getElem_cons h1, e]; rfl
def CmpC (n : Nd) (k : F) : Prop := ∀ (m : Nd) (q : F) (d : Nat) (v u : Value) (w : World), chk n k d = 0 → chk m q d = 0 → Vo w (· < w.heap.size) n k v → Vo w (· < w.heap.size) m q u →
  Calls Try.prog 29 #[v, u] w (Ret (.int .i64 (cmpV n k m q)) w)
set_option maxRecDepth 100000 in
set_option maxHeartbeats 6400000 in
theorem cmp_dif (n : Nd) (k : F) (IH : Hid (∀ i m j, k.get i = some (m, j) → CmpC m j)) (m : Nd) (q : F) (d : Nat) (v u : Value) (w : World) (hcn : chk n k d = 0) (hcm : chk m q d = 0) (hv : Vo w (· < w.heap.size) n k v) (hu : Vo w (· < w.heap.size) m q u) (hc : cls n.kind ≠ cls m.kind) :
    Calls Try.prog 29 #[v, u] w (Ret (.int .i64 (cmpV n k m q)) w) := by
  obtain ⟨An, cn, Ak, ck, rfl, hok, h1, h2, hn, hk⟩ := hv
  obtain ⟨Bn, dn, Bk, dk, rfl, hok', h1', h2', hn', hk'⟩ := hu
  obtain ⟨_, f3, f4⟩ := chk_zero hcn
  obtain ⟨_, g3, g4⟩ := chk_zero hcm
  have G := good_of f3
  have G' := good_of g3
  have HG := Lib.hid (And.intro f4 g4)
  clear f3 f4 g3 g4 hcn hcm
  obtain ⟨hk1, hk2, hk3⟩ := h2
  obtain ⟨hn1, hn2, hn3⟩ := h1
  obtain ⟨hk1', hk2', hk3'⟩ := h2'
  obtain ⟨hn1', hn2', hn3'⟩ := h1'
  have GA := G.lo
  have GB := G.hi
  have GA' := G'.lo
  have GB' := G'.hi
  have HOK := Lib.hid (And.intro hok hok')
  have hc3 : Hid (∀ w, Calls Try.prog 39 #[.int .i64 (clsV n.kind), .int .i64 (clsV m.kind)] w (RetS (.int .i64 (cmpI (cls n.kind) (cls m.kind))) w)) := fun w => by rw [← clsV_cmp GA GB GA' GB']; exact cmpInt_any _ _ w
  have hne : cmpI (cls n.kind) (cls m.kind) ≠ 0 := fun e => hc (cmpI_zero e)
  have HV : Hid (cmpV n k m q = cmpI (cls n.kind) (cls m.kind)) := by show _ = _; unfold cmpV nodeCmp orI; rw [if_neg hne]
  generalize cmpI (cls n.kind) (cls m.kind) = c at *
  generalize cmpV n k m q = V at *
  have q1 : (c != 0) = true := by simpa using hne
  clear hc hne G G' IH
  clear hok hok'
  generalize hW : (w.alloc (.cells #[.int .i64 n.kind, .int .i64 n.int, .int .i64 n.scale, .string (str n.text), .slice An n.names.length cn, .slice Ak k.len ck] 25)).alloc (.cells #[.int .i64 m.kind, .int .i64 m.int, .int .i64 m.scale, .string (str m.text), .slice Bn m.names.length dn, .slice Bk q.len dk] 25) = W
  have EW : EqW w n An cn Ak k.len ck m Bn dn Bk q.len dk W := by
    rw [← hW]
    refine ⟨((Below.refl _ _).alloc (Nat.le_refl _) _).alloc (by simp) _, (Blk.new w _ _).alloc _, ?_, by simp⟩
    have := Blk.new (w.alloc (.cells #[.int .i64 n.kind, .int .i64 n.int, .int .i64 n.scale, .string (str n.text), .slice An n.names.length cn, .slice Ak k.len ck] 25)) #[.int .i64 m.kind, .int .i64 m.int, .int .i64 m.scale, .string (str m.text), .slice Bn m.names.length dn, .slice Bk q.len dk] 25
    simpa [ncells] using this
  have hws : w.heap.size + 1 < W.heap.size := EW.2.2.2
  have hws0 : w.heap.size < W.heap.size := Nat.lt_of_succ_lt hws
  have b1 := EW.2.1
  have b2 := EW.2.2.1
  have x0 : W.cell? ⟨w.heap.size, 0, none⟩ = some (.int .i64 n.kind) := b1.cell 0
  have y0 : W.cell? ⟨w.heap.size + 1, 0, none⟩ = some (.int .i64 m.kind) := b2.cell 0
  have HEW := Lib.hid EW
  clear b1 b2 EW
  unfold ncells
  go_enter Try.func29, Try.ntmps29
  go_wp2_with fail
  go_quiet ((first
    | (go_at_call 40; exact Calls.quiet_of_same (RetS.q (class_any _ (by assumption) (by assumption) _)))
    | (go_at_call 39; exact Calls.quiet_of_same (RetS.q (hc3.out _)))))
  go_wp2_with fail
  generalize hW2 : World.drewN W nq = W2
  have EW2 : EqW w n An cn Ak k.len ck m Bn dn Bk q.len dk W2 := by rw [← hW2]; exact HEW.out.drewN _
  have hws2 : w.heap.size + 1 < W2.heap.size := EW2.2.2.2
  have hws3 : w.heap.size < W2.heap.size := Nat.lt_of_succ_lt hws2
  have HEW2 := Lib.hid EW2
  have HBB := Lib.hid EW2.1
  clear hW2 hW HEW EW2 hws hws0 x0 y0
  go_ret
  exact ⟨ret_i (by rw [HV.out]), HBB.out⟩
set_option maxRecDepth 100000 in
set_option maxHeartbeats 6400000 in
theorem cmp_num3 (n : Nd) (k : F) (IH : Hid (∀ i m j, k.get i = some (m, j) → CmpC m j)) (m : Nd) (q : F) (d : Nat) (v u : Value) (w : World) (hcn : chk n k d = 0) (hcm : chk m q d = 0) (hv : Vo w (· < w.heap.size) n k v) (hu : Vo w (· < w.heap.size) m q u) (hc : cls n.kind = cls m.kind) (h3 : n.kind = 3) :
    Calls Try.prog 29 #[v, u] w (Ret (.int .i64 (cmpV n k m q)) w) := by
  obtain ⟨An, cn, Ak, ck, rfl, hok, h1, h2, hn, hk⟩ := hv
  obtain ⟨Bn, dn, Bk, dk, rfl, hok', h1', h2', hn', hk'⟩ := hu
  obtain ⟨_, f3, f4⟩ := chk_zero hcn
  obtain ⟨_, g3, g4⟩ := chk_zero hcm
  have G := good_of f3
  have G' := good_of g3
  have HG := Lib.hid (And.intro f4 g4)
  clear f3 f4 g3 g4 hcn hcm
  obtain ⟨hk1, hk2, hk3⟩ := h2
  obtain ⟨hn1, hn2, hn3⟩ := h1
  obtain ⟨hk1', hk2', hk3'⟩ := h2'
  obtain ⟨hn1', hn2', hn3'⟩ := h1'
  have GA := G.lo
  have GB := G.hi
  have GA' := G'.lo
  have GB' := G'.hi
  have HOK := Lib.hid (And.intro hok hok')
  have hc3 : Hid (∀ w, Calls Try.prog 39 #[.int .i64 (clsV n.kind), .int .i64 (clsV m.kind)] w (RetS (.int .i64 (cmpI (cls n.kind) (cls m.kind))) w)) := fun w => by rw [← clsV_cmp GA GB GA' GB']; exact cmpInt_any _ _ w
  have hz : cmpI (cls n.kind) (cls m.kind) = 0 := by rw [hc]; exact cmpI_self _
  rw [hz] at hc3
  have c3 : cls n.kind = 3 := by unfold cls; split <;> omega
  have m3 : m.kind = 3 ∨ m.kind = 4 := by rw [hc] at c3; unfold cls at c3; split at c3 <;> omega
  have HV : Hid (cmpV n k m q = cmpI (nV n.int n.scale) (nV m.int m.scale)) := by show _ = _; unfold cmpV nodeCmp orI; rw [hz, if_pos rfl, if_pos c3]
  have sn : 0 ≤ n.scale ∧ n.scale ≤ 18 := by
    by_cases e : n.kind = 4
    · have := G.dec e; omega
    · have := G.scale e; omega
  have sm : 0 ≤ m.scale ∧ m.scale ≤ 18 := by
    rcases m3 with e | e
    · have := G'.scale (by omega); omega
    · have := G'.dec e; omega
  have HN : Hid (∀ w, Calls Try.prog 41 #[.agg #[.int .i64 n.kind, .int .i64 n.int, .int .i64 n.scale, .string (str n.text), .slice An n.names.length cn, .slice Ak k.len ck], .agg #[.int .i64 m.kind, .int .i64 m.int, .int .i64 m.scale, .string (str m.text), .slice Bn m.names.length dn, .slice Bk q.len dk]] w (Ret (.int .i64 (cmpI (nV n.int n.scale) (nV m.int m.scale))) w)) := fun w => numbers_any n m An Ak Bn Bk cn k.len ck dn q.len dk w hok hok' sn.1 sn.2 sm.1 sm.2
  generalize cmpI (nV n.int n.scale) (nV m.int m.scale) = c at *
  generalize cmpV n k m q = V at *
  have k3 : (n.kind == 3) = true := by simp; omega
  clear hc hz c3 m3 sn sm G G' IH h3
  clear hok hok'
  generalize hW : (w.alloc (.cells #[.int .i64 n.kind, .int .i64 n.int, .int .i64 n.scale, .string (str n.text), .slice An n.names.length cn, .slice Ak k.len ck] 25)).alloc (.cells #[.int .i64 m.kind, .int .i64 m.int, .int .i64 m.scale, .string (str m.text), .slice Bn m.names.length dn, .slice Bk q.len dk] 25) = W
  have EW : EqW w n An cn Ak k.len ck m Bn dn Bk q.len dk W := by
    rw [← hW]
    refine ⟨((Below.refl _ _).alloc (Nat.le_refl _) _).alloc (by simp) _, (Blk.new w _ _).alloc _, ?_, by simp⟩
    have := Blk.new (w.alloc (.cells #[.int .i64 n.kind, .int .i64 n.int, .int .i64 n.scale, .string (str n.text), .slice An n.names.length cn, .slice Ak k.len ck] 25)) #[.int .i64 m.kind, .int .i64 m.int, .int .i64 m.scale, .string (str m.text), .slice Bn m.names.length dn, .slice Bk q.len dk] 25
    simpa [ncells] using this
  have hws : w.heap.size + 1 < W.heap.size := EW.2.2.2
  have hws0 : w.heap.size < W.heap.size := Nat.lt_of_succ_lt hws
  have b1 := EW.2.1
  have b2 := EW.2.2.1
  have x0 : W.cell? ⟨w.heap.size, 0, none⟩ = some (.int .i64 n.kind) := b1.cell 0
  have x1 : W.cell? ⟨w.heap.size, 1, none⟩ = some (.int .i64 n.int) := b1.cell 1
  have x2 : W.cell? ⟨w.heap.size, 2, none⟩ = some (.int .i64 n.scale) := b1.cell 2
  have x3 : W.cell? ⟨w.heap.size, 3, none⟩ = some (.string (str n.text)) := b1.cell 3
  have x4 : W.cell? ⟨w.heap.size, 4, none⟩ = some (.slice An n.names.length cn) := b1.cell 4
  have x5 : W.cell? ⟨w.heap.size, 5, none⟩ = some (.slice Ak k.len ck) := b1.cell 5
  have y0 : W.cell? ⟨w.heap.size + 1, 0, none⟩ = some (.int .i64 m.kind) := b2.cell 0
  have y1 : W.cell? ⟨w.heap.size + 1, 1, none⟩ = some (.int .i64 m.int) := b2.cell 1
  have y2 : W.cell? ⟨w.heap.size + 1, 2, none⟩ = some (.int .i64 m.scale) := b2.cell 2
  have y3 : W.cell? ⟨w.heap.size + 1, 3, none⟩ = some (.string (str m.text)) := b2.cell 3
  have y4 : W.cell? ⟨w.heap.size + 1, 4, none⟩ = some (.slice Bn m.names.length dn) := b2.cell 4
  have y5 : W.cell? ⟨w.heap.size + 1, 5, none⟩ = some (.slice Bk q.len dk) := b2.cell 5
  have HEW := Lib.hid EW
  clear b1 b2 EW
  unfold ncells
  go_enter Try.func29, Try.ntmps29
  go_wp2_with fail
  go_quiet ((first
    | (go_at_call 40; exact Calls.quiet_of_same (RetS.q (class_any _ (by assumption) (by assumption) _)))
    | (go_at_call 39; exact Calls.quiet_of_same (RetS.q (hc3.out _)))))
  go_wp2_with fail
  generalize hW2 : World.drewN W nq = W2
  have EW2 : EqW w n An cn Ak k.len ck m Bn dn Bk q.len dk W2 := by rw [← hW2]; exact HEW.out.drewN _
  have hws2 : w.heap.size + 1 < W2.heap.size := EW2.2.2.2
  have hws3 : w.heap.size < W2.heap.size := Nat.lt_of_succ_lt hws2
  have HEW2 := Lib.hid EW2
  have HBB := Lib.hid EW2.1
  clear hW2 hW HEW EW2 hws hws0 x0 y0 x1 y1 x2 y2 x3 y3 x4 y4 x5 y5
  refine (HN.out _).mono ?_
  rintro e w1 ⟨rfl, b1⟩
  go_wp2_with fail
  go_ret
  exact ⟨ret_i (by rw [HV.out]), HBB.out.trans (b1.mono (by omega))⟩
set_option maxRecDepth 100000 in
set_option maxHeartbeats 6400000 in
theorem cmp_num4 (n : Nd) (k : F) (IH : Hid (∀ i m j, k.get i = some (m, j) → CmpC m j)) (m : Nd) (q : F) (d : Nat) (v u : Value) (w : World) (hcn : chk n k d = 0) (hcm : chk m q d = 0) (hv : Vo w (· < w.heap.size) n k v) (hu : Vo w (· < w.heap.size) m q u) (hc : cls n.kind = cls m.kind) (h3 : n.kind = 4) :
    Calls Try.prog 29 #[v, u] w (Ret (.int .i64 (cmpV n k m q)) w) := by
  obtain ⟨An, cn, Ak, ck, rfl, hok, h1, h2, hn, hk⟩ := hv
  obtain ⟨Bn, dn, Bk, dk, rfl, hok', h1', h2', hn', hk'⟩ := hu
  obtain ⟨_, f3, f4⟩ := chk_zero hcn
  obtain ⟨_, g3, g4⟩ := chk_zero hcm
  have G := good_of f3
  have G' := good_of g3
  have HG := Lib.hid (And.intro f4 g4)
  clear f3 f4 g3 g4 hcn hcm
  obtain ⟨hk1, hk2, hk3⟩ := h2
  obtain ⟨hn1, hn2, hn3⟩ := h1
  obtain ⟨hk1', hk2', hk3'⟩ := h2'
  obtain ⟨hn1', hn2', hn3'⟩ := h1'
  have GA := G.lo
  have GB := G.hi
  have GA' := G'.lo
  have GB' := G'.hi
  have HOK := Lib.hid (And.intro hok hok')
  have hc3 : Hid (∀ w, Calls Try.prog 39 #[.int .i64 (clsV n.kind), .int .i64 (clsV m.kind)] w (RetS (.int .i64 (cmpI (cls n.kind) (cls m.kind))) w)) := fun w => by rw [← clsV_cmp GA GB GA' GB']; exact cmpInt_any _ _ w
  have hz : cmpI (cls n.kind) (cls m.kind) = 0 := by rw [hc]; exact cmpI_self _
  rw [hz] at hc3
  have c3 : cls n.kind = 3 := by unfold cls; split <;> omega
  have m3 : m.kind = 3 ∨ m.kind = 4 := by rw [hc] at c3; unfold cls at c3; split at c3 <;> omega
  have HV : Hid (cmpV n k m q = cmpI (nV n.int n.scale) (nV m.int m.scale)) := by show _ = _; unfold cmpV nodeCmp orI; rw [hz, if_pos rfl, if_pos c3]
  have sn : 0 ≤ n.scale ∧ n.scale ≤ 18 := by
    by_cases e : n.kind = 4
    · have := G.dec e; omega
    · have := G.scale e; omega
  have sm : 0 ≤ m.scale ∧ m.scale ≤ 18 := by
    rcases m3 with e | e
    · have := G'.scale (by omega); omega
    · have := G'.dec e; omega
  have HN : Hid (∀ w, Calls Try.prog 41 #[.agg #[.int .i64 n.kind, .int .i64 n.int, .int .i64 n.scale, .string (str n.text), .slice An n.names.length cn, .slice Ak k.len ck], .agg #[.int .i64 m.kind, .int .i64 m.int, .int .i64 m.scale, .string (str m.text), .slice Bn m.names.length dn, .slice Bk q.len dk]] w (Ret (.int .i64 (cmpI (nV n.int n.scale) (nV m.int m.scale))) w)) := fun w => numbers_any n m An Ak Bn Bk cn k.len ck dn q.len dk w hok hok' sn.1 sn.2 sm.1 sm.2
  generalize cmpI (nV n.int n.scale) (nV m.int m.scale) = c at *
  generalize cmpV n k m q = V at *
  have k3 : (n.kind == 3) = false := by simp; omega
  have k4 : (n.kind == 4) = true := by simp; omega
  clear hc hz c3 m3 sn sm G G' IH h3
  clear hok hok'
  generalize hW : (w.alloc (.cells #[.int .i64 n.kind, .int .i64 n.int, .int .i64 n.scale, .string (str n.text), .slice An n.names.length cn, .slice Ak k.len ck] 25)).alloc (.cells #[.int .i64 m.kind, .int .i64 m.int, .int .i64 m.scale, .string (str m.text), .slice Bn m.names.length dn, .slice Bk q.len dk] 25) = W
  have EW : EqW w n An cn Ak k.len ck m Bn dn Bk q.len dk W := by
    rw [← hW]
    refine ⟨((Below.refl _ _).alloc (Nat.le_refl _) _).alloc (by simp) _, (Blk.new w _ _).alloc _, ?_, by simp⟩
    have := Blk.new (w.alloc (.cells #[.int .i64 n.kind, .int .i64 n.int, .int .i64 n.scale, .string (str n.text), .slice An n.names.length cn, .slice Ak k.len ck] 25)) #[.int .i64 m.kind, .int .i64 m.int, .int .i64 m.scale, .string (str m.text), .slice Bn m.names.length dn, .slice Bk q.len dk] 25
    simpa [ncells] using this
  have hws : w.heap.size + 1 < W.heap.size := EW.2.2.2
  have hws0 : w.heap.size < W.heap.size := Nat.lt_of_succ_lt hws
  have b1 := EW.2.1
  have b2 := EW.2.2.1
  have x0 : W.cell? ⟨w.heap.size, 0, none⟩ = some (.int .i64 n.kind) := b1.cell 0
  have x1 : W.cell? ⟨w.heap.size, 1, none⟩ = some (.int .i64 n.int) := b1.cell 1
  have x2 : W.cell? ⟨w.heap.size, 2, none⟩ = some (.int .i64 n.scale) := b1.cell 2
  have x3 : W.cell? ⟨w.heap.size, 3, none⟩ = some (.string (str n.text)) := b1.cell 3
  have x4 : W.cell? ⟨w.heap.size, 4, none⟩ = some (.slice An n.names.length cn) := b1.cell 4
  have x5 : W.cell? ⟨w.heap.size, 5, none⟩ = some (.slice Ak k.len ck) := b1.cell 5
  have y0 : W.cell? ⟨w.heap.size + 1, 0, none⟩ = some (.int .i64 m.kind) := b2.cell 0
  have y1 : W.cell? ⟨w.heap.size + 1, 1, none⟩ = some (.int .i64 m.int) := b2.cell 1
  have y2 : W.cell? ⟨w.heap.size + 1, 2, none⟩ = some (.int .i64 m.scale) := b2.cell 2
  have y3 : W.cell? ⟨w.heap.size + 1, 3, none⟩ = some (.string (str m.text)) := b2.cell 3
  have y4 : W.cell? ⟨w.heap.size + 1, 4, none⟩ = some (.slice Bn m.names.length dn) := b2.cell 4
  have y5 : W.cell? ⟨w.heap.size + 1, 5, none⟩ = some (.slice Bk q.len dk) := b2.cell 5
  have HEW := Lib.hid EW
  clear b1 b2 EW
  unfold ncells
  go_enter Try.func29, Try.ntmps29
  go_wp2_with fail
  go_quiet ((first
    | (go_at_call 40; exact Calls.quiet_of_same (RetS.q (class_any _ (by assumption) (by assumption) _)))
    | (go_at_call 39; exact Calls.quiet_of_same (RetS.q (hc3.out _)))))
  go_wp2_with fail
  generalize hW2 : World.drewN W nq = W2
  have EW2 : EqW w n An cn Ak k.len ck m Bn dn Bk q.len dk W2 := by rw [← hW2]; exact HEW.out.drewN _
  have hws2 : w.heap.size + 1 < W2.heap.size := EW2.2.2.2
  have hws3 : w.heap.size < W2.heap.size := Nat.lt_of_succ_lt hws2
  have HEW2 := Lib.hid EW2
  have HBB := Lib.hid EW2.1
  clear hW2 hW HEW EW2 hws hws0 x0 y0 x1 y1 x2 y2 x3 y3 x4 y4 x5 y5
  refine (HN.out _).mono ?_
  rintro e w1 ⟨rfl, b1⟩
  go_wp2_with fail
  go_ret
  exact ⟨ret_i (by rw [HV.out]), HBB.out.trans (b1.mono (by omega))⟩
set_option maxRecDepth 100000 in
set_option maxHeartbeats 6400000 in
theorem cmp_str6 (n : Nd) (k : F) (IH : Hid (∀ i m j, k.get i = some (m, j) → CmpC m j)) (m : Nd) (q : F) (d : Nat) (v u : Value) (w : World) (hcn : chk n k d = 0) (hcm : chk m q d = 0) (hv : Vo w (· < w.heap.size) n k v) (hu : Vo w (· < w.heap.size) m q u) (hc : cls n.kind = cls m.kind) (h3 : n.kind = 6) :
    Calls Try.prog 29 #[v, u] w (Ret (.int .i64 (cmpV n k m q)) w) := by
  obtain ⟨An, cn, Ak, ck, rfl, hok, h1, h2, hn, hk⟩ := hv
  obtain ⟨Bn, dn, Bk, dk, rfl, hok', h1', h2', hn', hk'⟩ := hu
  obtain ⟨_, f3, f4⟩ := chk_zero hcn
  obtain ⟨_, g3, g4⟩ := chk_zero hcm
  have G := good_of f3
  have G' := good_of g3
  have HG := Lib.hid (And.intro f4 g4)
  clear f3 f4 g3 g4 hcn hcm
  obtain ⟨hk1, hk2, hk3⟩ := h2
  obtain ⟨hn1, hn2, hn3⟩ := h1
  obtain ⟨hk1', hk2', hk3'⟩ := h2'
  obtain ⟨hn1', hn2', hn3'⟩ := h1'
  have GA := G.lo
  have GB := G.hi
  have GA' := G'.lo
  have GB' := G'.hi
  have HOK := Lib.hid (And.intro hok hok')
  have hc3 : Hid (∀ w, Calls Try.prog 39 #[.int .i64 (clsV n.kind), .int .i64 (clsV m.kind)] w (RetS (.int .i64 (cmpI (cls n.kind) (cls m.kind))) w)) := fun w => by rw [← clsV_cmp GA GB GA' GB']; exact cmpInt_any _ _ w
  have hz : cmpI (cls n.kind) (cls m.kind) = 0 := by rw [hc]; exact cmpI_self _
  rw [hz] at hc3
  have c3 : cls n.kind ≠ 3 := by unfold cls; split <;> omega
  have HV : Hid (cmpV n k m q = cmpB n.text m.text) := by show _ = _; unfold cmpV nodeCmp orI; rw [hz, if_pos rfl, if_neg c3, if_pos (by omega)]
  generalize cmpV n k m q = V at *
  have k3 : (n.kind == 3) = false := by simp; omega
  have k4 : (n.kind == 4) = false := by simp; omega
  have k6 : (n.kind == 6) = true := by simp; omega
  clear hc hz c3 G G' IH h3
  clear hok hok'
  generalize hW : (w.alloc (.cells #[.int .i64 n.kind, .int .i64 n.int, .int .i64 n.scale, .string (str n.text), .slice An n.names.length cn, .slice Ak k.len ck] 25)).alloc (.cells #[.int .i64 m.kind, .int .i64 m.int, .int .i64 m.scale, .string (str m.text), .slice Bn m.names.length dn, .slice Bk q.len dk] 25) = W
  have EW : EqW w n An cn Ak k.len ck m Bn dn Bk q.len dk W := by
    rw [← hW]
    refine ⟨((Below.refl _ _).alloc (Nat.le_refl _) _).alloc (by simp) _, (Blk.new w _ _).alloc _, ?_, by simp⟩
    have := Blk.new (w.alloc (.cells #[.int .i64 n.kind, .int .i64 n.int, .int .i64 n.scale, .string (str n.text), .slice An n.names.length cn, .slice Ak k.len ck] 25)) #[.int .i64 m.kind, .int .i64 m.int, .int .i64 m.scale, .string (str m.text), .slice Bn m.names.length dn, .slice Bk q.len dk] 25
    simpa [ncells] using this
  have hws : w.heap.size + 1 < W.heap.size := EW.2.2.2
  have hws0 : w.heap.size < W.heap.size := Nat.lt_of_succ_lt hws
  have b1 := EW.2.1
  have b2 := EW.2.2.1
  have x0 : W.cell? ⟨w.heap.size, 0, none⟩ = some (.int .i64 n.kind) := b1.cell 0
  have x3 : W.cell? ⟨w.heap.size, 3, none⟩ = some (.string (str n.text)) := b1.cell 3
  have y0 : W.cell? ⟨w.heap.size + 1, 0, none⟩ = some (.int .i64 m.kind) := b2.cell 0
  have y3 : W.cell? ⟨w.heap.size + 1, 3, none⟩ = some (.string (str m.text)) := b2.cell 3
  have HEW := Lib.hid EW
  clear b1 b2 EW
  unfold ncells
  go_enter Try.func29, Try.ntmps29
  go_wp2_with fail
  go_quiet ((first
    | (go_at_call 40; exact Calls.quiet_of_same (RetS.q (class_any _ (by assumption) (by assumption) _)))
    | (go_at_call 39; exact Calls.quiet_of_same (RetS.q (hc3.out _)))))
  go_wp2_with fail
  generalize hW2 : World.drewN W nq = W2
  have EW2 : EqW w n An cn Ak k.len ck m Bn dn Bk q.len dk W2 := by rw [← hW2]; exact HEW.out.drewN _
  have hws2 : w.heap.size + 1 < W2.heap.size := EW2.2.2.2
  have hws3 : w.heap.size < W2.heap.size := Nat.lt_of_succ_lt hws2
  have HEW2 := Lib.hid EW2
  have HBB := Lib.hid EW2.1
  clear hW2 hW HEW EW2 hws hws0 x0 y0 x3 y3
  refine (cmpStr_any n.text m.text _).mono ?_
  rintro e w1 ⟨rfl, rfl⟩
  go_wp2_with fail
  go_ret
  exact ⟨ret_i (by rw [HV.out]), HBB.out⟩
set_option maxRecDepth 100000 in
set_option maxHeartbeats 6400000 in
theorem cmp_str7 (n : Nd) (k : F) (IH : Hid (∀ i m j, k.get i = some (m, j) → CmpC m j)) (m : Nd) (q : F) (d : Nat) (v u : Value) (w : World) (hcn : chk n k d = 0) (hcm : chk m q d = 0) (hv : Vo w (· < w.heap.size) n k v) (hu : Vo w (· < w.heap.size) m q u) (hc : cls n.kind = cls m.kind) (h3 : n.kind = 7) :
    Calls Try.prog 29 #[v, u] w (Ret (.int .i64 (cmpV n k m q)) w) := by
  obtain ⟨An, cn, Ak, ck, rfl, hok, h1, h2, hn, hk⟩ := hv
  obtain ⟨Bn, dn, Bk, dk, rfl, hok', h1', h2', hn', hk'⟩ := hu
  obtain ⟨_, f3, f4⟩ := chk_zero hcn
  obtain ⟨_, g3, g4⟩ := chk_zero hcm
  have G := good_of f3
  have G' := good_of g3
  have HG := Lib.hid (And.intro f4 g4)
  clear f3 f4 g3 g4 hcn hcm
  obtain ⟨hk1, hk2, hk3⟩ := h2
  obtain ⟨hn1, hn2, hn3⟩ := h1
  obtain ⟨hk1', hk2', hk3'⟩ := h2'
  obtain ⟨hn1', hn2', hn3'⟩ := h1'
  have GA := G.lo
  have GB := G.hi
  have GA' := G'.lo
  have GB' := G'.hi
  have HOK := Lib.hid (And.intro hok hok')
  have hc3 : Hid (∀ w, Calls Try.prog 39 #[.int .i64 (clsV n.kind), .int .i64 (clsV m.kind)] w (RetS (.int .i64 (cmpI (cls n.kind) (cls m.kind))) w)) := fun w => by rw [← clsV_cmp GA GB GA' GB']; exact cmpInt_any _ _ w
  have hz : cmpI (cls n.kind) (cls m.kind) = 0 := by rw [hc]; exact cmpI_self _
  rw [hz] at hc3
  have c3 : cls n.kind ≠ 3 := by unfold cls; split <;> omega
  have HV : Hid (cmpV n k m q = cmpB n.text m.text) := by show _ = _; unfold cmpV nodeCmp orI; rw [hz, if_pos rfl, if_neg c3, if_pos (by omega)]
  generalize cmpV n k m q = V at *
  have k3 : (n.kind == 3) = false := by simp; omega
  have k4 : (n.kind == 4) = false := by simp; omega
  have k6 : (n.kind == 6) = false := by simp; omega
  have k7 : (n.kind == 7) = true := by simp; omega
  clear hc hz c3 G G' IH h3
  clear hok hok'
  generalize hW : (w.alloc (.cells #[.int .i64 n.kind, .int .i64 n.int, .int .i64 n.scale, .string (str n.text), .slice An n.names.length cn, .slice Ak k.len ck] 25)).alloc (.cells #[.int .i64 m.kind, .int .i64 m.int, .int .i64 m.scale, .string (str m.text), .slice Bn m.names.length dn, .slice Bk q.len dk] 25) = W
  have EW : EqW w n An cn Ak k.len ck m Bn dn Bk q.len dk W := by
    rw [← hW]
    refine ⟨((Below.refl _ _).alloc (Nat.le_refl _) _).alloc (by simp) _, (Blk.new w _ _).alloc _, ?_, by simp⟩
    have := Blk.new (w.alloc (.cells #[.int .i64 n.kind, .int .i64 n.int, .int .i64 n.scale, .string (str n.text), .slice An n.names.length cn, .slice Ak k.len ck] 25)) #[.int .i64 m.kind, .int .i64 m.int, .int .i64 m.scale, .string (str m.text), .slice Bn m.names.length dn, .slice Bk q.len dk] 25
    simpa [ncells] using this
  have hws : w.heap.size + 1 < W.heap.size := EW.2.2.2
  have hws0 : w.heap.size < W.heap.size := Nat.lt_of_succ_lt hws
  have b1 := EW.2.1
  have b2 := EW.2.2.1
  have x0 : W.cell? ⟨w.heap.size, 0, none⟩ = some (.int .i64 n.kind) := b1.cell 0
  have x3 : W.cell? ⟨w.heap.size, 3, none⟩ = some (.string (str n.text)) := b1.cell 3
  have y0 : W.cell? ⟨w.heap.size + 1, 0, none⟩ = some (.int .i64 m.kind) := b2.cell 0
  have y3 : W.cell? ⟨w.heap.size + 1, 3, none⟩ = some (.string (str m.text)) := b2.cell 3
  have HEW := Lib.hid EW
  clear b1 b2 EW
  unfold ncells
  go_enter Try.func29, Try.ntmps29
  go_wp2_with fail
  go_quiet ((first
    | (go_at_call 40; exact Calls.quiet_of_same (RetS.q (class_any _ (by assumption) (by assumption) _)))
    | (go_at_call 39; exact Calls.quiet_of_same (RetS.q (hc3.out _)))))
  go_wp2_with fail
  generalize hW2 : World.drewN W nq = W2
  have EW2 : EqW w n An cn Ak k.len ck m Bn dn Bk q.len dk W2 := by rw [← hW2]; exact HEW.out.drewN _
  have hws2 : w.heap.size + 1 < W2.heap.size := EW2.2.2.2
  have hws3 : w.heap.size < W2.heap.size := Nat.lt_of_succ_lt hws2
  have HEW2 := Lib.hid EW2
  have HBB := Lib.hid EW2.1
  clear hW2 hW HEW EW2 hws hws0 x0 y0 x3 y3
  refine (cmpStr_any n.text m.text _).mono ?_
  rintro e w1 ⟨rfl, rfl⟩
  go_wp2_with fail
  go_ret
  exact ⟨ret_i (by rw [HV.out]), HBB.out⟩
set_option maxRecDepth 100000 in
set_option maxHeartbeats 6400000 in
theorem cmp_int (n : Nd) (k : F) (IH : Hid (∀ i m j, k.get i = some (m, j) → CmpC m j)) (m : Nd) (q : F) (d : Nat) (v u : Value) (w : World) (hcn : chk n k d = 0) (hcm : chk m q d = 0) (hv : Vo w (· < w.heap.size) n k v) (hu : Vo w (· < w.heap.size) m q u) (hc : cls n.kind = cls m.kind) (h3 : n.kind = 1 ∨ n.kind = 2 ∨ n.kind = 5) :
    Calls Try.prog 29 #[v, u] w (Ret (.int .i64 (cmpV n k m q)) w) := by
  obtain ⟨An, cn, Ak, ck, rfl, hok, h1, h2, hn, hk⟩ := hv
  obtain ⟨Bn, dn, Bk, dk, rfl, hok', h1', h2', hn', hk'⟩ := hu
  obtain ⟨_, f3, f4⟩ := chk_zero hcn
  obtain ⟨_, g3, g4⟩ := chk_zero hcm
  have G := good_of f3
  have G' := good_of g3
  have HG := Lib.hid (And.intro f4 g4)
  clear f3 f4 g3 g4 hcn hcm
  obtain ⟨hk1, hk2, hk3⟩ := h2
  obtain ⟨hn1, hn2, hn3⟩ := h1
  obtain ⟨hk1', hk2', hk3'⟩ := h2'
  obtain ⟨hn1', hn2', hn3'⟩ := h1'
  have GA := G.lo
  have GB := G.hi
  have GA' := G'.lo
  have GB' := G'.hi
  have HOK := Lib.hid (And.intro hok hok')
  have hc3 : Hid (∀ w, Calls Try.prog 39 #[.int .i64 (clsV n.kind), .int .i64 (clsV m.kind)] w (RetS (.int .i64 (cmpI (cls n.kind) (cls m.kind))) w)) := fun w => by rw [← clsV_cmp GA GB GA' GB']; exact cmpInt_any _ _ w
  have hz : cmpI (cls n.kind) (cls m.kind) = 0 := by rw [hc]; exact cmpI_self _
  rw [hz] at hc3
  have c3 : cls n.kind ≠ 3 := by unfold cls; split <;> omega
  have HV : Hid (cmpV n k m q = cmpI n.int m.int) := by show _ = _; unfold cmpV nodeCmp orI; rw [hz, if_pos rfl, if_neg c3, if_neg (by omega), if_neg (by omega)]
  generalize cmpV n k m q = V at *
  have k3 : (n.kind == 3) = false := by simp; omega
  have k4 : (n.kind == 4) = false := by simp; omega
  have k6 : (n.kind == 6) = false := by simp; omega
  have k7 : (n.kind == 7) = false := by simp; omega
  have k8 : (n.kind == 8) = false := by simp; omega
  have k9 : (n.kind == 9) = false := by simp; omega
  clear hc hz c3 G G' IH h3
  clear hok hok'
  generalize hW : (w.alloc (.cells #[.int .i64 n.kind, .int .i64 n.int, .int .i64 n.scale, .string (str n.text), .slice An n.names.length cn, .slice Ak k.len ck] 25)).alloc (.cells #[.int .i64 m.kind, .int .i64 m.int, .int .i64 m.scale, .string (str m.text), .slice Bn m.names.length dn, .slice Bk q.len dk] 25) = W
  have EW : EqW w n An cn Ak k.len ck m Bn dn Bk q.len dk W := by
    rw [← hW]
    refine ⟨((Below.refl _ _).alloc (Nat.le_refl _) _).alloc (by simp) _, (Blk.new w _ _).alloc _, ?_, by simp⟩
    have := Blk.new (w.alloc (.cells #[.int .i64 n.kind, .int .i64 n.int, .int .i64 n.scale, .string (str n.text), .slice An n.names.length cn, .slice Ak k.len ck] 25)) #[.int .i64 m.kind, .int .i64 m.int, .int .i64 m.scale, .string (str m.text), .slice Bn m.names.length dn, .slice Bk q.len dk] 25
    simpa [ncells] using this
  have hws : w.heap.size + 1 < W.heap.size := EW.2.2.2
  have hws0 : w.heap.size < W.heap.size := Nat.lt_of_succ_lt hws
  have b1 := EW.2.1
  have b2 := EW.2.2.1
  have x0 : W.cell? ⟨w.heap.size, 0, none⟩ = some (.int .i64 n.kind) := b1.cell 0
  have x1 : W.cell? ⟨w.heap.size, 1, none⟩ = some (.int .i64 n.int) := b1.cell 1
  have y0 : W.cell? ⟨w.heap.size + 1, 0, none⟩ = some (.int .i64 m.kind) := b2.cell 0
  have y1 : W.cell? ⟨w.heap.size + 1, 1, none⟩ = some (.int .i64 m.int) := b2.cell 1
  have HEW := Lib.hid EW
  clear b1 b2 EW
  unfold ncells
  go_enter Try.func29, Try.ntmps29
  go_wp2_with fail
  go_quiet ((first
    | (go_at_call 40; exact Calls.quiet_of_same (RetS.q (class_any _ (by assumption) (by assumption) _)))
    | (go_at_call 39; exact Calls.quiet_of_same (RetS.q (hc3.out _)))))
  go_wp2_with fail
  generalize hW2 : World.drewN W nq = W2
  have EW2 : EqW w n An cn Ak k.len ck m Bn dn Bk q.len dk W2 := by rw [← hW2]; exact HEW.out.drewN _
  have hws2 : w.heap.size + 1 < W2.heap.size := EW2.2.2.2
  have hws3 : w.heap.size < W2.heap.size := Nat.lt_of_succ_lt hws2
  have HEW2 := Lib.hid EW2
  have HBB := Lib.hid EW2.1
  clear hW2 hW HEW EW2 hws hws0 x0 y0 x1 y1
  refine (cmpInt_any n.int m.int _).mono ?_
  rintro e w1 ⟨rfl, rfl⟩
  go_wp2_with fail
  go_ret
  exact ⟨ret_i (by rw [HV.out]), HBB.out⟩
set_option maxRecDepth 100000 in
set_option maxHeartbeats 6400000 in
theorem cmp_l8a (n : Nd) (k : F) (IH : Hid (∀ i m j, k.get i = some (m, j) → CmpC m j)) (m : Nd) (q : F) (d : Nat) (v u : Value) (w : World) (hcn : chk n k d = 0) (hcm : chk m q d = 0) (hv : Vo w (· < w.heap.size) n k v) (hu : Vo w (· < w.heap.size) m q u) (hc : cls n.kind = cls m.kind) (h3 : n.kind = 8) (hl : q.len < k.len) :
    Calls Try.prog 29 #[v, u] w (Ret (.int .i64 (cmpV n k m q)) w) := by
  obtain ⟨An, cn, Ak, ck, rfl, hok, h1, h2, hn, hk⟩ := hv
  obtain ⟨Bn, dn, Bk, dk, rfl, hok', h1', h2', hn', hk'⟩ := hu
  obtain ⟨_, f3, f4⟩ := chk_zero hcn
  obtain ⟨_, g3, g4⟩ := chk_zero hcm
  have G := good_of f3
  have G' := good_of g3
  have HG := Lib.hid (And.intro f4 g4)
  clear f3 f4 g3 g4 hcn hcm
  obtain ⟨hk1, hk2, hk3⟩ := h2
  obtain ⟨hn1, hn2, hn3⟩ := h1
  obtain ⟨hk1', hk2', hk3'⟩ := h2'
  obtain ⟨hn1', hn2', hn3'⟩ := h1'
  have GA := G.lo
  have GB := G.hi
  have GA' := G'.lo
  have GB' := G'.hi
  have HOK := Lib.hid (And.intro hok hok')
  have hc3 : Hid (∀ w, Calls Try.prog 39 #[.int .i64 (clsV n.kind), .int .i64 (clsV m.kind)] w (RetS (.int .i64 (cmpI (cls n.kind) (cls m.kind))) w)) := fun w => by rw [← clsV_cmp GA GB GA' GB']; exact cmpInt_any _ _ w
  have hz : cmpI (cls n.kind) (cls m.kind) = 0 := by rw [hc]; exact cmpI_self _
  rw [hz] at hc3
  have c3 : cls n.kind ≠ 3 := by unfold cls; split <;> omega
  have m3 : m.kind = 8 := by unfold cls at hc; (repeat' split at hc) <;> omega
  have HV : Hid (cmpV n k m q = cmpF false k n.names q m.names) := by show _ = _; unfold cmpV nodeCmp orI; rw [hz, if_pos rfl, if_neg c3, if_neg (by omega), if_pos (by omega), show (n.kind == 9) = false by simp [h3]]
  generalize cmpV n k m q = V at *
  have k3 : (n.kind == 3) = false := by simp; omega
  have k4 : (n.kind == 4) = false := by simp; omega
  have k6 : (n.kind == 6) = false := by simp; omega
  have k7 : (n.kind == 7) = false := by simp; omega
  have k8 : (n.kind == 8) = true := by simp; omega
  have k9 : (n.kind == 9) = false := by simp; omega
  clear hc hz c3 m3 G G' h3
  clear hok hok'
  generalize hW : (w.alloc (.cells #[.int .i64 n.kind, .int .i64 n.int, .int .i64 n.scale, .string (str n.text), .slice An n.names.length cn, .slice Ak k.len ck] 25)).alloc (.cells #[.int .i64 m.kind, .int .i64 m.int, .int .i64 m.scale, .string (str m.text), .slice Bn m.names.length dn, .slice Bk q.len dk] 25) = W
  have EW : EqW w n An cn Ak k.len ck m Bn dn Bk q.len dk W := by
    rw [← hW]
    refine ⟨((Below.refl _ _).alloc (Nat.le_refl _) _).alloc (by simp) _, (Blk.new w _ _).alloc _, ?_, by simp⟩
    have := Blk.new (w.alloc (.cells #[.int .i64 n.kind, .int .i64 n.int, .int .i64 n.scale, .string (str n.text), .slice An n.names.length cn, .slice Ak k.len ck] 25)) #[.int .i64 m.kind, .int .i64 m.int, .int .i64 m.scale, .string (str m.text), .slice Bn m.names.length dn, .slice Bk q.len dk] 25
    simpa [ncells] using this
  have hws : w.heap.size + 1 < W.heap.size := EW.2.2.2
  have hws0 : w.heap.size < W.heap.size := Nat.lt_of_succ_lt hws
  have b1 := EW.2.1
  have b2 := EW.2.2.1
  have x0 : W.cell? ⟨w.heap.size, 0, none⟩ = some (.int .i64 n.kind) := b1.cell 0
  have x5 : W.cell? ⟨w.heap.size, 5, none⟩ = some (.slice Ak k.len ck) := b1.cell 5
  have y0 : W.cell? ⟨w.heap.size + 1, 0, none⟩ = some (.int .i64 m.kind) := b2.cell 0
  have y5 : W.cell? ⟨w.heap.size + 1, 5, none⟩ = some (.slice Bk q.len dk) := b2.cell 5
  have HEW := Lib.hid EW
  clear b1 b2 EW
  unfold ncells
  go_enter Try.func29, Try.ntmps29
  go_wp2_with fail
  go_quiet ((first
    | (go_at_call 40; exact Calls.quiet_of_same (RetS.q (class_any _ (by assumption) (by assumption) _)))
    | (go_at_call 39; exact Calls.quiet_of_same (RetS.q (hc3.out _)))))
  go_wp2_with fail
  generalize hW2 : World.drewN W nq = W2
  have EW2 : EqW w n An cn Ak k.len ck m Bn dn Bk q.len dk W2 := by rw [← hW2]; exact HEW.out.drewN _
  have hws2 : w.heap.size + 1 < W2.heap.size := EW2.2.2.2
  have hws3 : w.heap.size < W2.heap.size := Nat.lt_of_succ_lt hws2
  have HEW2 := Lib.hid EW2
  have HBB := Lib.hid EW2.1
  clear hW2 hW HEW EW2 hws hws0 x0 y0 x5 y5
  go_loopw [45] (fun s45 wr => ∃ i : Nat, i ≤ k.len ∧ i ≤ q.len ∧ s45 = .int .i64 i ∧ Hid (V = cmpF false (k.drop i) (n.names.drop i) (q.drop i) (m.names.drop i)) ∧ EqW w n An cn Ak k.len ck m Bn dn Bk q.len dk wr) (fun s45 _ => k.len - (intOf s45).toNat)
  case atStart => exact ⟨0, Nat.zero_le _, Nat.zero_le _, rfl, by rw [F.drop0, F.drop0]; exact HV.out, HEW2.out⟩
  case round =>
    obtain ⟨i, hi1, hi2, rfl, HI, hdr⟩ := hrel
    have HEW' := Lib.hid hdr
    obtain ⟨bds, B1, B2, hsz'⟩ := hdr
    have x0 : wr.cell? ⟨w.heap.size, 0, none⟩ = some (.int .i64 n.kind) := B1.cell 0
    have x4 : wr.cell? ⟨w.heap.size, 4, none⟩ = some (.slice An n.names.length cn) := B1.cell 4
    have x5 : wr.cell? ⟨w.heap.size, 5, none⟩ = some (.slice Ak k.len ck) := B1.cell 5
    have y4 : wr.cell? ⟨w.heap.size + 1, 4, none⟩ = some (.slice Bn m.names.length dn) := B2.cell 4
    have y5 : wr.cell? ⟨w.heap.size + 1, 5, none⟩ = some (.slice Bk q.len dk) := B2.cell 5
    clear B1 B2
    by_cases hlt : i < k.len ∧ i < q.len
    · obtain ⟨hik, hiq⟩ := hlt
      obtain ⟨n', k', hg⟩ := F.get_lt k i hik
      obtain ⟨m', q', hg'⟩ := F.get_lt q i hiq
      obtain ⟨b, off, Cn, en, Ck, ek, rfl, _, ⟨z0, z1, z2, z3, z4, z5⟩, hvk⟩ := (hk.keep (w' := wr) (S' := (· < wr.heap.size)) (fun b hbb => bds.block b hbb) (fun b hbb => Nat.lt_of_lt_of_le hbb bds.size)).at_ hg hik
      obtain ⟨b', off', Dn, fn, Dk, fk, rfl, _, ⟨t0, t1, t2, t3, t4, t5⟩, hvq⟩ := (hk'.keep (w' := wr) (S' := (· < wr.heap.size)) (fun b hbb => bds.block b hbb) (fun b hbb => Nat.lt_of_lt_of_le hbb bds.size)).at_ hg' hiq
      have HJ : Hid (CmpC n' k') := (unhide IH) i n' k' hg
      have HC1 : Hid (chk n' k' (d + 1) = 0) := chkF_get HG.out.1 hg
      have HC2 : Hid (chk m' q' (d + 1) = 0) := chkF_get HG.out.2 hg'
      have HV1 := Lib.hid hvk
      have HV2 := Lib.hid hvq
      have hi0 : (0 : Int) ≤ (i : Int) := by omega
      have hi1 : (i : Int) < (k.len : Int) := by omega
      have hi3 : (i : Int) < (q.len : Int) := by omega
      clear hvk hvq
      have HD : Hid (V = orI (cmpV n' k' m' q') (cmpF false (k.drop (i + 1)) (n.names.drop (i + 1)) (q.drop (i + 1)) (m.names.drop (i + 1)))) := by show _ = _; rw [HI.out, cmpF_drop false hg hg']; rfl
      clear HI hg hg'
      go_wp2_with fail
      go_still_tail 10, (by kernel_rfl)
      go_wp2_with fail
      generalize hW5 : wr.drew = W5
      have HEWn := HEW'.out.drew
      rw [hW5] at HEWn
      have HV1n : Vo W5 (· < W5.heap.size) n' k' _ := HV1.out.keep (w' := W5) (fun _ _ => by rw [← hW5]; rfl) (fun _ h => by rw [← hW5]; exact h)
      have HV2n : Vo W5 (· < W5.heap.size) m' q' _ := HV2.out.keep (w' := W5) (fun _ _ => by rw [← hW5]; rfl) (fun _ h => by rw [← hW5]; exact h)
      have HV1h := Lib.hid HV1n
      have HV2h := Lib.hid HV2n
      clear HV1n HV2n hW5
      refine ((unhide HJ) m' q' (d + 1) _ _ _ HC1.out HC2.out HV1h.out HV2h.out).mono ?_
      rintro e w2 ⟨rfl, b2⟩
      have HEW3 := HEWn.below b2
      rcases hcv : (cmpV n' k' m' q' != 0) with _ | _
      · have HN : Hid (V = cmpF false (k.drop (i + 1)) (n.names.drop (i + 1)) (q.drop (i + 1)) (m.names.drop (i + 1))) := by show _ = _; rw [HD.out]; exact if_pos (by simpa using hcv)
        generalize cmpV n' k' m' q' = c at *
        clear HD
        go_wp2_with fail
        go_roundw
        case rel => exact ⟨i + 1, by omega, by omega, by go_num, HN.out, HEW3⟩
        case measure => simp [intOf]; omega
      · have HN : Hid (V = cmpV n' k' m' q') := by show _ = _; rw [HD.out]; exact if_neg (by simpa using hcv)
        generalize cmpV n' k' m' q' = c at *
        clear HD
        go_wp2_with fail
        go_ret
        exact ⟨ret_i (by rw [HN.out]), HEW3.1⟩
    · have HN : Hid (V = cmpI (k.len : Int) (q.len : Int)) := by show _ = _; rw [HI.out]; exact cmpF_end false hi1 hi2 (by omega)
      clear HI
      have hend : i = k.len ∨ i = q.len := by omega
      have HE := Lib.hid hend
      clear hend hlt
      obtain rfl : i = q.len := by have := HE.out; omega
      go_wp2_with fail
      refine (cmpInt_any (k.len : Int) (q.len : Int) _).mono ?_
      rintro e w1 ⟨rfl, rfl⟩
      go_wp2_with fail
      go_ret
      exact ⟨ret_i (by rw [HN.out]), bds⟩
set_option maxRecDepth 100000 in
set_option maxHeartbeats 6400000 in
theorem cmp_l8b (n : Nd) (k : F) (IH : Hid (∀ i m j, k.get i = some (m, j) → CmpC m j)) (m : Nd) (q : F) (d : Nat) (v u : Value) (w : World) (hcn : chk n k d = 0) (hcm : chk m q d = 0) (hv : Vo w (· < w.heap.size) n k v) (hu : Vo w (· < w.heap.size) m q u) (hc : cls n.kind = cls m.kind) (h3 : n.kind = 8) (hl : ¬ q.len < k.len) :
    Calls Try.prog 29 #[v, u] w (Ret (.int .i64 (cmpV n k m q)) w) := by
  obtain ⟨An, cn, Ak, ck, rfl, hok, h1, h2, hn, hk⟩ := hv
  obtain ⟨Bn, dn, Bk, dk, rfl, hok', h1', h2', hn', hk'⟩ := hu
  obtain ⟨_, f3, f4⟩ := chk_zero hcn
  obtain ⟨_, g3, g4⟩ := chk_zero hcm
  have G := good_of f3
  have G' := good_of g3
  have HG := Lib.hid (And.intro f4 g4)
  clear f3 f4 g3 g4 hcn hcm
  obtain ⟨hk1, hk2, hk3⟩ := h2
  obtain ⟨hn1, hn2, hn3⟩ := h1
  obtain ⟨hk1', hk2', hk3'⟩ := h2'
  obtain ⟨hn1', hn2', hn3'⟩ := h1'
  have GA := G.lo
  have GB := G.hi
  have GA' := G'.lo
  have GB' := G'.hi
  have HOK := Lib.hid (And.intro hok hok')
  have hc3 : Hid (∀ w, Calls Try.prog 39 #[.int .i64 (clsV n.kind), .int .i64 (clsV m.kind)] w (RetS (.int .i64 (cmpI (cls n.kind) (cls m.kind))) w)) := fun w => by rw [← clsV_cmp GA GB GA' GB']; exact cmpInt_any _ _ w
  have hz : cmpI (cls n.kind) (cls m.kind) = 0 := by rw [hc]; exact cmpI_self _
  rw [hz] at hc3
  have c3 : cls n.kind ≠ 3 := by unfold cls; split <;> omega
  have m3 : m.kind = 8 := by unfold cls at hc; (repeat' split at hc) <;> omega
  have HV : Hid (cmpV n k m q = cmpF false k n.names q m.names) := by show _ = _; unfold cmpV nodeCmp orI; rw [hz, if_pos rfl, if_neg c3, if_neg (by omega), if_pos (by omega), show (n.kind == 9) = false by simp [h3]]
  generalize cmpV n k m q = V at *
  have k3 : (n.kind == 3) = false := by simp; omega
  have k4 : (n.kind == 4) = false := by simp; omega
  have k6 : (n.kind == 6) = false := by simp; omega
  have k7 : (n.kind == 7) = false := by simp; omega
  have k8 : (n.kind == 8) = true := by simp; omega
  have k9 : (n.kind == 9) = false := by simp; omega
  clear hc hz c3 m3 G G' h3
  clear hok hok'
  generalize hW : (w.alloc (.cells #[.int .i64 n.kind, .int .i64 n.int, .int .i64 n.scale, .string (str n.text), .slice An n.names.length cn, .slice Ak k.len ck] 25)).alloc (.cells #[.int .i64 m.kind, .int .i64 m.int, .int .i64 m.scale, .string (str m.text), .slice Bn m.names.length dn, .slice Bk q.len dk] 25) = W
  have EW : EqW w n An cn Ak k.len ck m Bn dn Bk q.len dk W := by
    rw [← hW]
    refine ⟨((Below.refl _ _).alloc (Nat.le_refl _) _).alloc (by simp) _, (Blk.new w _ _).alloc _, ?_, by simp⟩
    have := Blk.new (w.alloc (.cells #[.int .i64 n.kind, .int .i64 n.int, .int .i64 n.scale, .string (str n.text), .slice An n.names.length cn, .slice Ak k.len ck] 25)) #[.int .i64 m.kind, .int .i64 m.int, .int .i64 m.scale, .string (str m.text), .slice Bn m.names.length dn, .slice Bk q.len dk] 25
    simpa [ncells] using this
  have hws : w.heap.size + 1 < W.heap.size := EW.2.2.2
  have hws0 : w.heap.size < W.heap.size := Nat.lt_of_succ_lt hws
  have b1 := EW.2.1
  have b2 := EW.2.2.1
  have x0 : W.cell? ⟨w.heap.size, 0, none⟩ = some (.int .i64 n.kind) := b1.cell 0
  have x5 : W.cell? ⟨w.heap.size, 5, none⟩ = some (.slice Ak k.len ck) := b1.cell 5
  have y0 : W.cell? ⟨w.heap.size + 1, 0, none⟩ = some (.int .i64 m.kind) := b2.cell 0
  have y5 : W.cell? ⟨w.heap.size + 1, 5, none⟩ = some (.slice Bk q.len dk) := b2.cell 5
  have HEW := Lib.hid EW
  clear b1 b2 EW
  unfold ncells
  go_enter Try.func29, Try.ntmps29
  go_wp2_with fail
  go_quiet ((first
    | (go_at_call 40; exact Calls.quiet_of_same (RetS.q (class_any _ (by assumption) (by assumption) _)))
    | (go_at_call 39; exact Calls.quiet_of_same (RetS.q (hc3.out _)))))
  go_wp2_with fail
  generalize hW2 : World.drewN W nq = W2
  have EW2 : EqW w n An cn Ak k.len ck m Bn dn Bk q.len dk W2 := by rw [← hW2]; exact HEW.out.drewN _
  have hws2 : w.heap.size + 1 < W2.heap.size := EW2.2.2.2
  have hws3 : w.heap.size < W2.heap.size := Nat.lt_of_succ_lt hws2
  have HEW2 := Lib.hid EW2
  have HBB := Lib.hid EW2.1
  clear hW2 hW HEW EW2 hws hws0 x0 y0 x5 y5
  go_loopw [45] (fun s45 wr => ∃ i : Nat, i ≤ k.len ∧ i ≤ q.len ∧ s45 = .int .i64 i ∧ Hid (V = cmpF false (k.drop i) (n.names.drop i) (q.drop i) (m.names.drop i)) ∧ EqW w n An cn Ak k.len ck m Bn dn Bk q.len dk wr) (fun s45 _ => k.len - (intOf s45).toNat)
  case atStart => exact ⟨0, Nat.zero_le _, Nat.zero_le _, rfl, by rw [F.drop0, F.drop0]; exact HV.out, HEW2.out⟩
  case round =>
    obtain ⟨i, hi1, hi2, rfl, HI, hdr⟩ := hrel
    have HEW' := Lib.hid hdr
    obtain ⟨bds, B1, B2, hsz'⟩ := hdr
    have x0 : wr.cell? ⟨w.heap.size, 0, none⟩ = some (.int .i64 n.kind) := B1.cell 0
    have x4 : wr.cell? ⟨w.heap.size, 4, none⟩ = some (.slice An n.names.length cn) := B1.cell 4
    have x5 : wr.cell? ⟨w.heap.size, 5, none⟩ = some (.slice Ak k.len ck) := B1.cell 5
    have y4 : wr.cell? ⟨w.heap.size + 1, 4, none⟩ = some (.slice Bn m.names.length dn) := B2.cell 4
    have y5 : wr.cell? ⟨w.heap.size + 1, 5, none⟩ = some (.slice Bk q.len dk) := B2.cell 5
    clear B1 B2
    by_cases hlt : i < k.len ∧ i < q.len
    · obtain ⟨hik, hiq⟩ := hlt
      obtain ⟨n', k', hg⟩ := F.get_lt k i hik
      obtain ⟨m', q', hg'⟩ := F.get_lt q i hiq
      obtain ⟨b, off, Cn, en, Ck, ek, rfl, _, ⟨z0, z1, z2, z3, z4, z5⟩, hvk⟩ := (hk.keep (w' := wr) (S' := (· < wr.heap.size)) (fun b hbb => bds.block b hbb) (fun b hbb => Nat.lt_of_lt_of_le hbb bds.size)).at_ hg hik
      obtain ⟨b', off', Dn, fn, Dk, fk, rfl, _, ⟨t0, t1, t2, t3, t4, t5⟩, hvq⟩ := (hk'.keep (w' := wr) (S' := (· < wr.heap.size)) (fun b hbb => bds.block b hbb) (fun b hbb => Nat.lt_of_lt_of_le hbb bds.size)).at_ hg' hiq
      have HJ : Hid (CmpC n' k') := (unhide IH) i n' k' hg
      have HC1 : Hid (chk n' k' (d + 1) = 0) := chkF_get HG.out.1 hg
      have HC2 : Hid (chk m' q' (d + 1) = 0) := chkF_get HG.out.2 hg'
      have HV1 := Lib.hid hvk
      have HV2 := Lib.hid hvq
      have hi0 : (0 : Int) ≤ (i : Int) := by omega
      have hi1 : (i : Int) < (k.len : Int) := by omega
      have hi3 : (i : Int) < (q.len : Int) := by omega
      clear hvk hvq
      have HD : Hid (V = orI (cmpV n' k' m' q') (cmpF false (k.drop (i + 1)) (n.names.drop (i + 1)) (q.drop (i + 1)) (m.names.drop (i + 1)))) := by show _ = _; rw [HI.out, cmpF_drop false hg hg']; rfl
      clear HI hg hg'
      go_wp2_with fail
      go_still_tail 10, (by kernel_rfl)
      go_wp2_with fail
      generalize hW5 : wr.drew = W5
      have HEWn := HEW'.out.drew
      rw [hW5] at HEWn
      have HV1n : Vo W5 (· < W5.heap.size) n' k' _ := HV1.out.keep (w' := W5) (fun _ _ => by rw [← hW5]; rfl) (fun _ h => by rw [← hW5]; exact h)
      have HV2n : Vo W5 (· < W5.heap.size) m' q' _ := HV2.out.keep (w' := W5) (fun _ _ => by rw [← hW5]; rfl) (fun _ h => by rw [← hW5]; exact h)
      have HV1h := Lib.hid HV1n
      have HV2h := Lib.hid HV2n
      clear HV1n HV2n hW5
      refine ((unhide HJ) m' q' (d + 1) _ _ _ HC1.out HC2.out HV1h.out HV2h.out).mono ?_
      rintro e w2 ⟨rfl, b2⟩
      have HEW3 := HEWn.below b2
      rcases hcv : (cmpV n' k' m' q' != 0) with _ | _
      · have HN : Hid (V = cmpF false (k.drop (i + 1)) (n.names.drop (i + 1)) (q.drop (i + 1)) (m.names.drop (i + 1))) := by show _ = _; rw [HD.out]; exact if_pos (by simpa using hcv)
        generalize cmpV n' k' m' q' = c at *
        clear HD
        go_wp2_with fail
        go_roundw
        case rel => exact ⟨i + 1, by omega, by omega, by go_num, HN.out, HEW3⟩
        case measure => simp [intOf]; omega
      · have HN : Hid (V = cmpV n' k' m' q') := by show _ = _; rw [HD.out]; exact if_neg (by simpa using hcv)
        generalize cmpV n' k' m' q' = c at *
        clear HD
        go_wp2_with fail
        go_ret
        exact ⟨ret_i (by rw [HN.out]), HEW3.1⟩
    · have HN : Hid (V = cmpI (k.len : Int) (q.len : Int)) := by show _ = _; rw [HI.out]; exact cmpF_end false hi1 hi2 (by omega)
      clear HI
      have hend : i = k.len ∨ i = q.len := by omega
      have HE := Lib.hid hend
      clear hend hlt
      obtain rfl : i = k.len := by have := HE.out; omega
      go_wp2_with fail
      refine (cmpInt_any (k.len : Int) (q.len : Int) _).mono ?_
      rintro e w1 ⟨rfl, rfl⟩
      go_wp2_with fail
      go_ret
      exact ⟨ret_i (by rw [HN.out]), bds⟩
set_option maxRecDepth 100000 in
set_option maxHeartbeats 6400000 in
theorem cmp_l9a (n : Nd) (k : F) (IH : Hid (∀ i m j, k.get i = some (m, j) → CmpC m j)) (m : Nd) (q : F) (d : Nat) (v u : Value) (w : World) (hcn : chk n k d = 0) (hcm : chk m q d = 0) (hv : Vo w (· < w.heap.size) n k v) (hu : Vo w (· < w.heap.size) m q u) (hc : cls n.kind = cls m.kind) (h3 : n.kind = 9) (hl : q.len < k.len) :
    Calls Try.prog 29 #[v, u] w (Ret (.int .i64 (cmpV n k m q)) w) := by
  obtain ⟨An, cn, Ak, ck, rfl, hok, h1, h2, hn, hk⟩ := hv
  obtain ⟨Bn, dn, Bk, dk, rfl, hok', h1', h2', hn', hk'⟩ := hu
  obtain ⟨_, f3, f4⟩ := chk_zero hcn
  obtain ⟨_, g3, g4⟩ := chk_zero hcm
  have G := good_of f3
  have G' := good_of g3
  have HG := Lib.hid (And.intro f4 g4)
  clear f3 f4 g3 g4 hcn hcm
  obtain ⟨hk1, hk2, hk3⟩ := h2
  obtain ⟨hn1, hn2, hn3⟩ := h1
  obtain ⟨hk1', hk2', hk3'⟩ := h2'
  obtain ⟨hn1', hn2', hn3'⟩ := h1'
  have GA := G.lo
  have GB := G.hi
  have GA' := G'.lo
  have GB' := G'.hi
  have HOK := Lib.hid (And.intro hok hok')
  have hc3 : Hid (∀ w, Calls Try.prog 39 #[.int .i64 (clsV n.kind), .int .i64 (clsV m.kind)] w (RetS (.int .i64 (cmpI (cls n.kind) (cls m.kind))) w)) := fun w => by rw [← clsV_cmp GA GB GA' GB']; exact cmpInt_any _ _ w
  have hz : cmpI (cls n.kind) (cls m.kind) = 0 := by rw [hc]; exact cmpI_self _
  rw [hz] at hc3
  have c3 : cls n.kind ≠ 3 := by unfold cls; split <;> omega
  have m3 : m.kind = 9 := by unfold cls at hc; (repeat' split at hc) <;> omega
  have HV : Hid (cmpV n k m q = cmpF true k n.names q m.names) := by show _ = _; unfold cmpV nodeCmp orI; rw [hz, if_pos rfl, if_neg c3, if_neg (by omega), if_pos (by omega), show (n.kind == 9) = true by simp [h3]]
  have NL : Hid (n.names.length = k.len ∧ m.names.length = q.len) := ⟨(G.struct h3).1, (G'.struct m3).1⟩
  generalize cmpV n k m q = V at *
  have k3 : (n.kind == 3) = false := by simp; omega
  have k4 : (n.kind == 4) = false := by simp; omega
  have k6 : (n.kind == 6) = false := by simp; omega
  have k7 : (n.kind == 7) = false := by simp; omega
  have k8 : (n.kind == 8) = false := by simp; omega
  have k9 : (n.kind == 9) = true := by simp; omega
  clear hc hz c3 m3 G G' h3
  clear hok hok'
  generalize hW : (w.alloc (.cells #[.int .i64 n.kind, .int .i64 n.int, .int .i64 n.scale, .string (str n.text), .slice An n.names.length cn, .slice Ak k.len ck] 25)).alloc (.cells #[.int .i64 m.kind, .int .i64 m.int, .int .i64 m.scale, .string (str m.text), .slice Bn m.names.length dn, .slice Bk q.len dk] 25) = W
  have EW : EqW w n An cn Ak k.len ck m Bn dn Bk q.len dk W := by
    rw [← hW]
    refine ⟨((Below.refl _ _).alloc (Nat.le_refl _) _).alloc (by simp) _, (Blk.new w _ _).alloc _, ?_, by simp⟩
    have := Blk.new (w.alloc (.cells #[.int .i64 n.kind, .int .i64 n.int, .int .i64 n.scale, .string (str n.text), .slice An n.names.length cn, .slice Ak k.len ck] 25)) #[.int .i64 m.kind, .int .i64 m.int, .int .i64 m.scale, .string (str m.text), .slice Bn m.names.length dn, .slice Bk q.len dk] 25
    simpa [ncells] using this
  have hws : w.heap.size + 1 < W.heap.size := EW.2.2.2
  have hws0 : w.heap.size < W.heap.size := Nat.lt_of_succ_lt hws
  have b1 := EW.2.1
  have b2 := EW.2.2.1
  have x0 : W.cell? ⟨w.heap.size, 0, none⟩ = some (.int .i64 n.kind) := b1.cell 0
  have x5 : W.cell? ⟨w.heap.size, 5, none⟩ = some (.slice Ak k.len ck) := b1.cell 5
  have y0 : W.cell? ⟨w.heap.size + 1, 0, none⟩ = some (.int .i64 m.kind) := b2.cell 0
  have y5 : W.cell? ⟨w.heap.size + 1, 5, none⟩ = some (.slice Bk q.len dk) := b2.cell 5
  have HEW := Lib.hid EW
  clear b1 b2 EW
  unfold ncells
  go_enter Try.func29, Try.ntmps29
  go_wp2_with fail
  go_quiet ((first
    | (go_at_call 40; exact Calls.quiet_of_same (RetS.q (class_any _ (by assumption) (by assumption) _)))
    | (go_at_call 39; exact Calls.quiet_of_same (RetS.q (hc3.out _)))))
  go_wp2_with fail
  generalize hW2 : World.drewN W nq = W2
  have EW2 : EqW w n An cn Ak k.len ck m Bn dn Bk q.len dk W2 := by rw [← hW2]; exact HEW.out.drewN _
  have hws2 : w.heap.size + 1 < W2.heap.size := EW2.2.2.2
  have hws3 : w.heap.size < W2.heap.size := Nat.lt_of_succ_lt hws2
  have HEW2 := Lib.hid EW2
  have HBB := Lib.hid EW2.1
  clear hW2 hW HEW EW2 hws hws0 x0 y0 x5 y5
  go_loopw [45] (fun s45 wr => ∃ i : Nat, i ≤ k.len ∧ i ≤ q.len ∧ s45 = .int .i64 i ∧ Hid (V = cmpF true (k.drop i) (n.names.drop i) (q.drop i) (m.names.drop i)) ∧ EqW w n An cn Ak k.len ck m Bn dn Bk q.len dk wr) (fun s45 _ => k.len - (intOf s45).toNat)
  case atStart => exact ⟨0, Nat.zero_le _, Nat.zero_le _, rfl, by rw [F.drop0, F.drop0]; exact HV.out, HEW2.out⟩
  case round =>
    obtain ⟨i, hi1, hi2, rfl, HI, hdr⟩ := hrel
    have HEW' := Lib.hid hdr
    obtain ⟨bds, B1, B2, hsz'⟩ := hdr
    have x0 : wr.cell? ⟨w.heap.size, 0, none⟩ = some (.int .i64 n.kind) := B1.cell 0
    have x4 : wr.cell? ⟨w.heap.size, 4, none⟩ = some (.slice An n.names.length cn) := B1.cell 4
    have x5 : wr.cell? ⟨w.heap.size, 5, none⟩ = some (.slice Ak k.len ck) := B1.cell 5
    have y4 : wr.cell? ⟨w.heap.size + 1, 4, none⟩ = some (.slice Bn m.names.length dn) := B2.cell 4
    have y5 : wr.cell? ⟨w.heap.size + 1, 5, none⟩ = some (.slice Bk q.len dk) := B2.cell 5
    clear B1 B2
    by_cases hlt : i < k.len ∧ i < q.len
    · obtain ⟨hik, hiq⟩ := hlt
      obtain ⟨n', k', hg⟩ := F.get_lt k i hik
      obtain ⟨m', q', hg'⟩ := F.get_lt q i hiq
      obtain ⟨b, off, Cn, en, Ck, ek, rfl, _, ⟨z0, z1, z2, z3, z4, z5⟩, hvk⟩ := (hk.keep (w' := wr) (S' := (· < wr.heap.size)) (fun b hbb => bds.block b hbb) (fun b hbb => Nat.lt_of_lt_of_le hbb bds.size)).at_ hg hik
      obtain ⟨b', off', Dn, fn, Dk, fk, rfl, _, ⟨t0, t1, t2, t3, t4, t5⟩, hvq⟩ := (hk'.keep (w' := wr) (S' := (· < wr.heap.size)) (fun b hbb => bds.block b hbb) (fun b hbb => Nat.lt_of_lt_of_le hbb bds.size)).at_ hg' hiq
      have HJ : Hid (CmpC n' k') := (unhide IH) i n' k' hg
      have HC1 : Hid (chk n' k' (d + 1) = 0) := chkF_get HG.out.1 hg
      have HC2 : Hid (chk m' q' (d + 1) = 0) := chkF_get HG.out.2 hg'
      have HV1 := Lib.hid hvk
      have HV2 := Lib.hid hvq
      have hi0 : (0 : Int) ≤ (i : Int) := by omega
      have hi1 : (i : Int) < (k.len : Int) := by omega
      have hi3 : (i : Int) < (q.len : Int) := by omega
      clear hvk hvq
      obtain ⟨g1, o1, s1, hA1, _, ha1, hca1⟩ := names_at (RdS.rd (hn.keep (w' := wr) (fun b hbb => bds.block b hbb) (fun _ h => h))) (k := i) (by rw [NL.out.1]; exact hik)
      obtain ⟨g2, o2, s2, hA2, _, ha2, hca2⟩ := names_at (RdS.rd (hn'.keep (w' := wr) (fun b hbb => bds.block b hbb) (fun _ h => h))) (k := i) (by rw [NL.out.2]; exact hiq)
      subst hA1
      subst hA2
      have hin1 : (i : Int) < (n.names.length : Int) := by have := NL.out.1; omega
      have hin2 : (i : Int) < (m.names.length : Int) := by have := NL.out.2; omega
      have hd := HI.out.trans (cmpF_drop true hg hg')
      rw [headD_drop ha1, headD_drop ha2, if_pos rfl] at hd
      have HD0 := Lib.hid hd
      clear hd ha1 ha2 HI hg hg'
      rcases hcb : (cmpB s1 s2 != 0) with _ | _
      rotate_left
      · have HR : Hid (V = cmpB s1 s2) := by show _ = _; rw [HD0.out, orI, if_neg (by simpa using hcb)]
        clear HD0
        go_wp2_with fail
        go_quiet ((go_at_call 42; exact Calls.quiet_of_same (RetS.q (cmpStr_any s1 s2 _))))
        go_wp2_with fail
        go_ret
        exact ⟨ret_i (by rw [HR.out]), below_drewN bds _⟩
      have HD : Hid (V = orI (cmpV n' k' m' q') (cmpF true (k.drop (i + 1)) (n.names.drop (i + 1)) (q.drop (i + 1)) (m.names.drop (i + 1)))) := by show _ = _; rw [HD0.out]; exact if_pos (by simpa using hcb)
      clear HD0
      go_wp2_with fail
      go_quiet ((go_at_call 42; exact Calls.quiet_of_same (RetS.q (cmpStr_any s1 s2 _))))
      go_wp2_with fail
      generalize hW4 : World.drewN wr nq = W4
      have x54 : W4.cell? ⟨w.heap.size, 5, none⟩ = wr.cell? ⟨w.heap.size, 5, none⟩ := by rw [← hW4]; rfl
      rw [x5] at x54
      have y54 : W4.cell? ⟨w.heap.size + 1, 5, none⟩ = wr.cell? ⟨w.heap.size + 1, 5, none⟩ := by rw [← hW4]; rfl
      rw [y5] at y54
      have z04 : W4.cell? ⟨b, off + i * 6, none⟩ = wr.cell? ⟨b, off + i * 6, none⟩ := by rw [← hW4]; rfl
      rw [z0] at z04
      have t04 : W4.cell? ⟨b', off' + i * 6, none⟩ = wr.cell? ⟨b', off' + i * 6, none⟩ := by rw [← hW4]; rfl
      rw [t0] at t04
      have z14 : W4.cell? ⟨b, off + i * 6 + 1, none⟩ = wr.cell? ⟨b, off + i * 6 + 1, none⟩ := by rw [← hW4]; rfl
      rw [z1] at z14
      have t14 : W4.cell? ⟨b', off' + i * 6 + 1, none⟩ = wr.cell? ⟨b', off' + i * 6 + 1, none⟩ := by rw [← hW4]; rfl
      rw [t1] at t14
      have z24 : W4.cell? ⟨b, off + i * 6 + 2, none⟩ = wr.cell? ⟨b, off + i * 6 + 2, none⟩ := by rw [← hW4]; rfl
      rw [z2] at z24
      have t24 : W4.cell? ⟨b', off' + i * 6 + 2, none⟩ = wr.cell? ⟨b', off' + i * 6 + 2, none⟩ := by rw [← hW4]; rfl
      rw [t2] at t24
      have z34 : W4.cell? ⟨b, off + i * 6 + 3, none⟩ = wr.cell? ⟨b, off + i * 6 + 3, none⟩ := by rw [← hW4]; rfl
      rw [z3] at z34
      have t34 : W4.cell? ⟨b', off' + i * 6 + 3, none⟩ = wr.cell? ⟨b', off' + i * 6 + 3, none⟩ := by rw [← hW4]; rfl
      rw [t3] at t34
      have z44 : W4.cell? ⟨b, off + i * 6 + 4, none⟩ = wr.cell? ⟨b, off + i * 6 + 4, none⟩ := by rw [← hW4]; rfl
      rw [z4] at z44
      have t44 : W4.cell? ⟨b', off' + i * 6 + 4, none⟩ = wr.cell? ⟨b', off' + i * 6 + 4, none⟩ := by rw [← hW4]; rfl
      rw [t4] at t44
      have z54 : W4.cell? ⟨b, off + i * 6 + 5, none⟩ = wr.cell? ⟨b, off + i * 6 + 5, none⟩ := by rw [← hW4]; rfl
      rw [z5] at z54
      have t54 : W4.cell? ⟨b', off' + i * 6 + 5, none⟩ = wr.cell? ⟨b', off' + i * 6 + 5, none⟩ := by rw [← hW4]; rfl
      rw [t5] at t54
      have HEW4 := HEW'.out.drewN nq
      rw [hW4] at HEW4
      have HV14 : Vo W4 (· < W4.heap.size) n' k' _ := HV1.out.keep (w' := W4) (fun _ _ => by rw [← hW4]; rfl) (fun _ h => by rw [← hW4]; exact h)
      have HV24 : Vo W4 (· < W4.heap.size) m' q' _ := HV2.out.keep (w' := W4) (fun _ _ => by rw [← hW4]; rfl) (fun _ h => by rw [← hW4]; exact h)
      have HE4 := Lib.hid HEW4
      have HVH1 := Lib.hid HV14
      have HVH2 := Lib.hid HV24
      clear hW4 HEW4 HV14 HV24
      go_still_tail 10, (by kernel_rfl)
      go_wp2_with fail
      generalize hW5 : W4.drew = W5
      have HEWn := HE4.out.drew
      rw [hW5] at HEWn
      have HV1n : Vo W5 (· < W5.heap.size) n' k' _ := HVH1.out.keep (w' := W5) (fun _ _ => by rw [← hW5]; rfl) (fun _ h => by rw [← hW5]; exact h)
      have HV2n : Vo W5 (· < W5.heap.size) m' q' _ := HVH2.out.keep (w' := W5) (fun _ _ => by rw [← hW5]; rfl) (fun _ h => by rw [← hW5]; exact h)
      have HV1h := Lib.hid HV1n
      have HV2h := Lib.hid HV2n
      clear HV1n HV2n hW5
      refine ((unhide HJ) m' q' (d + 1) _ _ _ HC1.out HC2.out HV1h.out HV2h.out).mono ?_
      rintro e w2 ⟨rfl, b2⟩
      have HEW3 := HEWn.below b2
      rcases hcv : (cmpV n' k' m' q' != 0) with _ | _
      · have HN : Hid (V = cmpF true (k.drop (i + 1)) (n.names.drop (i + 1)) (q.drop (i + 1)) (m.names.drop (i + 1))) := by show _ = _; rw [HD.out]; exact if_pos (by simpa using hcv)
        generalize cmpV n' k' m' q' = c at *
        clear HD
        go_wp2_with fail
        go_roundw
        case rel => exact ⟨i + 1, by omega, by omega, by go_num, HN.out, HEW3⟩
        case measure => simp [intOf]; omega
      · have HN : Hid (V = cmpV n' k' m' q') := by show _ = _; rw [HD.out]; exact if_neg (by simpa using hcv)
        generalize cmpV n' k' m' q' = c at *
        clear HD
        go_wp2_with fail
        go_ret
        exact ⟨ret_i (by rw [HN.out]), HEW3.1⟩
    · have HN : Hid (V = cmpI (k.len : Int) (q.len : Int)) := by show _ = _; rw [HI.out]; exact cmpF_end true hi1 hi2 (by omega)
      clear HI
      have hend : i = k.len ∨ i = q.len := by omega
      have HE := Lib.hid hend
      clear hend hlt
      obtain rfl : i = q.len := by have := HE.out; omega
      go_wp2_with fail
      refine (cmpInt_any (k.len : Int) (q.len : Int) _).mono ?_
      rintro e w1 ⟨rfl, rfl⟩
      go_wp2_with fail
      go_ret
      exact ⟨ret_i (by rw [HN.out]), bds⟩
set_option maxRecDepth 100000 in
set_option maxHeartbeats 6400000 in
theorem cmp_l9b (n : Nd) (k : F) (IH : Hid (∀ i m j, k.get i = some (m, j) → CmpC m j)) (m : Nd) (q : F) (d : Nat) (v u : Value) (w : World) (hcn : chk n k d = 0) (hcm : chk m q d = 0) (hv : Vo w (· < w.heap.size) n k v) (hu : Vo w (· < w.heap.size) m q u) (hc : cls n.kind = cls m.kind) (h3 : n.kind = 9) (hl : ¬ q.len < k.len) :
    Calls Try.prog 29 #[v, u] w (Ret (.int .i64 (cmpV n k m q)) w) := by
  obtain ⟨An, cn, Ak, ck, rfl, hok, h1, h2, hn, hk⟩ := hv
  obtain ⟨Bn, dn, Bk, dk, rfl, hok', h1', h2', hn', hk'⟩ := hu
  obtain ⟨_, f3, f4⟩ := chk_zero hcn
  obtain ⟨_, g3, g4⟩ := chk_zero hcm
  have G := good_of f3
  have G' := good_of g3
  have HG := Lib.hid (And.intro f4 g4)
  clear f3 f4 g3 g4 hcn hcm
  obtain ⟨hk1, hk2, hk3⟩ := h2
  obtain ⟨hn1, hn2, hn3⟩ := h1
  obtain ⟨hk1', hk2', hk3'⟩ := h2'
  obtain ⟨hn1', hn2', hn3'⟩ := h1'
  have GA := G.lo
  have GB := G.hi
  have GA' := G'.lo
  have GB' := G'.hi
  have HOK := Lib.hid (And.intro hok hok')
  have hc3 : Hid (∀ w, Calls Try.prog 39 #[.int .i64 (clsV n.kind), .int .i64 (clsV m.kind)] w (RetS (.int .i64 (cmpI (cls n.kind) (cls m.kind))) w)) := fun w => by rw [← clsV_cmp GA GB GA' GB']; exact cmpInt_any _ _ w
  have hz : cmpI (cls n.kind) (cls m.kind) = 0 := by rw [hc]; exact cmpI_self _
  rw [hz] at hc3
  have c3 : cls n.kind ≠ 3 := by unfold cls; split <;> omega
  have m3 : m.kind = 9 := by unfold cls at hc; (repeat' split at hc) <;> omega
  have HV : Hid (cmpV n k m q = cmpF true k n.names q m.names) := by show _ = _; unfold cmpV nodeCmp orI; rw [hz, if_pos rfl, if_neg c3, if_neg (by omega), if_pos (by omega), show (n.kind == 9) = true by simp [h3]]
  have NL : Hid (n.names.length = k.len ∧ m.names.length = q.len) := ⟨(G.struct h3).1, (G'.struct m3).1⟩
  generalize cmpV n k m q = V at *
  have k3 : (n.kind == 3) = false := by simp; omega
  have k4 : (n.kind == 4) = false := by simp; omega
  have k6 : (n.kind == 6) = false := by simp; omega
  have k7 : (n.kind == 7) = false := by simp; omega
  have k8 : (n.kind == 8) = false := by simp; omega
  have k9 : (n.kind == 9) = true := by simp; omega
  clear hc hz c3 m3 G G' h3
  clear hok hok'
  generalize hW : (w.alloc (.cells #[.int .i64 n.kind, .int .i64 n.int, .int .i64 n.scale, .string (str n.text), .slice An n.names.length cn, .slice Ak k.len ck] 25)).alloc (.cells #[.int .i64 m.kind, .int .i64 m.int, .int .i64 m.scale, .string (str m.text), .slice Bn m.names.length dn, .slice Bk q.len dk] 25) = W
  have EW : EqW w n An cn Ak k.len ck m Bn dn Bk q.len dk W := by
    rw [← hW]
    refine ⟨((Below.refl _ _).alloc (Nat.le_refl _) _).alloc (by simp) _, (Blk.new w _ _).alloc _, ?_, by simp⟩
    have := Blk.new (w.alloc (.cells #[.int .i64 n.kind, .int .i64 n.int, .int .i64 n.scale, .string (str n.text), .slice An n.names.length cn, .slice Ak k.len ck] 25)) #[.int .i64 m.kind, .int .i64 m.int, .int .i64 m.scale, .string (str m.text), .slice Bn m.names.length dn, .slice Bk q.len dk] 25
    simpa [ncells] using this
  have hws : w.heap.size + 1 < W.heap.size := EW.2.2.2
  have hws0 : w.heap.size < W.heap.size := Nat.lt_of_succ_lt hws
  have b1 := EW.2.1
  have b2 := EW.2.2.1
  have x0 : W.cell? ⟨w.heap.size, 0, none⟩ = some (.int .i64 n.kind) := b1.cell 0
  have x5 : W.cell? ⟨w.heap.size, 5, none⟩ = some (.slice Ak k.len ck) := b1.cell 5
  have y0 : W.cell? ⟨w.heap.size + 1, 0, none⟩ = some (.int .i64 m.kind) := b2.cell 0
  have y5 : W.cell? ⟨w.heap.size + 1, 5, none⟩ = some (.slice Bk q.len dk) := b2.cell 5
  have HEW := Lib.hid EW
  clear b1 b2 EW
  unfold ncells
  go_enter Try.func29, Try.ntmps29
  go_wp2_with fail
  go_quiet ((first
    | (go_at_call 40; exact Calls.quiet_of_same (RetS.q (class_any _ (by assumption) (by assumption) _)))
    | (go_at_call 39; exact Calls.quiet_of_same (RetS.q (hc3.out _)))))
  go_wp2_with fail
  generalize hW2 : World.drewN W nq = W2
  have EW2 : EqW w n An cn Ak k.len ck m Bn dn Bk q.len dk W2 := by rw [← hW2]; exact HEW.out.drewN _
  have hws2 : w.heap.size + 1 < W2.heap.size := EW2.2.2.2
  have hws3 : w.heap.size < W2.heap.size := Nat.lt_of_succ_lt hws2
  have HEW2 := Lib.hid EW2
  have HBB := Lib.hid EW2.1
  clear hW2 hW HEW EW2 hws hws0 x0 y0 x5 y5
  go_loopw [45] (fun s45 wr => ∃ i : Nat, i ≤ k.len ∧ i ≤ q.len ∧ s45 = .int .i64 i ∧ Hid (V = cmpF true (k.drop i) (n.names.drop i) (q.drop i) (m.names.drop i)) ∧ EqW w n An cn Ak k.len ck m Bn dn Bk q.len dk wr) (fun s45 _ => k.len - (intOf s45).toNat)
  case atStart => exact ⟨0, Nat.zero_le _, Nat.zero_le _, rfl, by rw [F.drop0, F.drop0]; exact HV.out, HEW2.out⟩
  case round =>
    obtain ⟨i, hi1, hi2, rfl, HI, hdr⟩ := hrel
    have HEW' := Lib.hid hdr
    obtain ⟨bds, B1, B2, hsz'⟩ := hdr
    have x0 : wr.cell? ⟨w.heap.size, 0, none⟩ = some (.int .i64 n.kind) := B1.cell 0
    have x4 : wr.cell? ⟨w.heap.size, 4, none⟩ = some (.slice An n.names.length cn) := B1.cell 4
    have x5 : wr.cell? ⟨w.heap.size, 5, none⟩ = some (.slice Ak k.len ck) := B1.cell 5
    have y4 : wr.cell? ⟨w.heap.size + 1, 4, none⟩ = some (.slice Bn m.names.length dn) := B2.cell 4
    have y5 : wr.cell? ⟨w.heap.size + 1, 5, none⟩ = some (.slice Bk q.len dk) := B2.cell 5
    clear B1 B2
    by_cases hlt : i < k.len ∧ i < q.len
    · obtain ⟨hik, hiq⟩ := hlt
      obtain ⟨n', k', hg⟩ := F.get_lt k i hik
      obtain ⟨m', q', hg'⟩ := F.get_lt q i hiq
      obtain ⟨b, off, Cn, en, Ck, ek, rfl, _, ⟨z0, z1, z2, z3, z4, z5⟩, hvk⟩ := (hk.keep (w' := wr) (S' := (· < wr.heap.size)) (fun b hbb => bds.block b hbb) (fun b hbb => Nat.lt_of_lt_of_le hbb bds.size)).at_ hg hik
      obtain ⟨b', off', Dn, fn, Dk, fk, rfl, _, ⟨t0, t1, t2, t3, t4, t5⟩, hvq⟩ := (hk'.keep (w' := wr) (S' := (· < wr.heap.size)) (fun b hbb => bds.block b hbb) (fun b hbb => Nat.lt_of_lt_of_le hbb bds.size)).at_ hg' hiq
      have HJ : Hid (CmpC n' k') := (unhide IH) i n' k' hg
      have HC1 : Hid (chk n' k' (d + 1) = 0) := chkF_get HG.out.1 hg
      have HC2 : Hid (chk m' q' (d + 1) = 0) := chkF_get HG.out.2 hg'
      have HV1 := Lib.hid hvk
      have HV2 := Lib.hid hvq
      have hi0 : (0 : Int) ≤ (i : Int) := by omega
      have hi1 : (i : Int) < (k.len : Int) := by omega
      have hi3 : (i : Int) < (q.len : Int) := by omega
      clear hvk hvq
      obtain ⟨g1, o1, s1, hA1, _, ha1, hca1⟩ := names_at (RdS.rd (hn.keep (w' := wr) (fun b hbb => bds.block b hbb) (fun _ h => h))) (k := i) (by rw [NL.out.1]; exact hik)
      obtain ⟨g2, o2, s2, hA2, _, ha2, hca2⟩ := names_at (RdS.rd (hn'.keep (w' := wr) (fun b hbb => bds.block b hbb) (fun _ h => h))) (k := i) (by rw [NL.out.2]; exact hiq)
      subst hA1
      subst hA2
      have hin1 : (i : Int) < (n.names.length : Int) := by have := NL.out.1; omega
      have hin2 : (i : Int) < (m.names.length : Int) := by have := NL.out.2; omega
      have hd := HI.out.trans (cmpF_drop true hg hg')
      rw [headD_drop ha1, headD_drop ha2, if_pos rfl] at hd
      have HD0 := Lib.hid hd
      clear hd ha1 ha2 HI hg hg'
      rcases hcb : (cmpB s1 s2 != 0) with _ | _
      rotate_left
      · have HR : Hid (V = cmpB s1 s2) := by show _ = _; rw [HD0.out, orI, if_neg (by simpa using hcb)]
        clear HD0
        go_wp2_with fail
        go_quiet ((go_at_call 42; exact Calls.quiet_of_same (RetS.q (cmpStr_any s1 s2 _))))
        go_wp2_with fail
        go_ret
        exact ⟨ret_i (by rw [HR.out]), below_drewN bds _⟩
      have HD : Hid (V = orI (cmpV n' k' m' q') (cmpF true (k.drop (i + 1)) (n.names.drop (i + 1)) (q.drop (i + 1)) (m.names.drop (i + 1)))) := by show _ = _; rw [HD0.out]; exact if_pos (by simpa using hcb)
      clear HD0
      go_wp2_with fail
      go_quiet ((go_at_call 42; exact Calls.quiet_of_same (RetS.q (cmpStr_any s1 s2 _))))
      go_wp2_with fail
      generalize hW4 : World.drewN wr nq = W4
      have x54 : W4.cell? ⟨w.heap.size, 5, none⟩ = wr.cell? ⟨w.heap.size, 5, none⟩ := by rw [← hW4]; rfl
      rw [x5] at x54
      have y54 : W4.cell? ⟨w.heap.size + 1, 5, none⟩ = wr.cell? ⟨w.heap.size + 1, 5, none⟩ := by rw [← hW4]; rfl
      rw [y5] at y54
      have z04 : W4.cell? ⟨b, off + i * 6, none⟩ = wr.cell? ⟨b, off + i * 6, none⟩ := by rw [← hW4]; rfl
      rw [z0] at z04
      have t04 : W4.cell? ⟨b', off' + i * 6, none⟩ = wr.cell? ⟨b', off' + i * 6, none⟩ := by rw [← hW4]; rfl
      rw [t0] at t04
      have z14 : W4.cell? ⟨b, off + i * 6 + 1, none⟩ = wr.cell? ⟨b, off + i * 6 + 1, none⟩ := by rw [← hW4]; rfl
      rw [z1] at z14
      have t14 : W4.cell? ⟨b', off' + i * 6 + 1, none⟩ = wr.cell? ⟨b', off' + i * 6 + 1, none⟩ := by rw [← hW4]; rfl
      rw [t1] at t14
      have z24 : W4.cell? ⟨b, off + i * 6 + 2, none⟩ = wr.cell? ⟨b, off + i * 6 + 2, none⟩ := by rw [← hW4]; rfl
      rw [z2] at z24
      have t24 : W4.cell? ⟨b', off' + i * 6 + 2, none⟩ = wr.cell? ⟨b', off' + i * 6 + 2, none⟩ := by rw [← hW4]; rfl
      rw [t2] at t24
      have z34 : W4.cell? ⟨b, off + i * 6 + 3, none⟩ = wr.cell? ⟨b, off + i * 6 + 3, none⟩ := by rw [← hW4]; rfl
      rw [z3] at z34
      have t34 : W4.cell? ⟨b', off' + i * 6 + 3, none⟩ = wr.cell? ⟨b', off' + i * 6 + 3, none⟩ := by rw [← hW4]; rfl
      rw [t3] at t34
      have z44 : W4.cell? ⟨b, off + i * 6 + 4, none⟩ = wr.cell? ⟨b, off + i * 6 + 4, none⟩ := by rw [← hW4]; rfl
      rw [z4] at z44
      have t44 : W4.cell? ⟨b', off' + i * 6 + 4, none⟩ = wr.cell? ⟨b', off' + i * 6 + 4, none⟩ := by rw [← hW4]; rfl
      rw [t4] at t44
      have z54 : W4.cell? ⟨b, off + i * 6 + 5, none⟩ = wr.cell? ⟨b, off + i * 6 + 5, none⟩ := by rw [← hW4]; rfl
      rw [z5] at z54
      have t54 : W4.cell? ⟨b', off' + i * 6 + 5, none⟩ = wr.cell? ⟨b', off' + i * 6 + 5, none⟩ := by rw [← hW4]; rfl
      rw [t5] at t54
      have HEW4 := HEW'.out.drewN nq
      rw [hW4] at HEW4
      have HV14 : Vo W4 (· < W4.heap.size) n' k' _ := HV1.out.keep (w' := W4) (fun _ _ => by rw [← hW4]; rfl) (fun _ h => by rw [← hW4]; exact h)
      have HV24 : Vo W4 (· < W4.heap.size) m' q' _ := HV2.out.keep (w' := W4) (fun _ _ => by rw [← hW4]; rfl) (fun _ h => by rw [← hW4]; exact h)
      have HE4 := Lib.hid HEW4
      have HVH1 := Lib.hid HV14
      have HVH2 := Lib.hid HV24
      clear hW4 HEW4 HV14 HV24
      go_still_tail 10, (by kernel_rfl)
      go_wp2_with fail
      generalize hW5 : W4.drew = W5
      have HEWn := HE4.out.drew
      rw [hW5] at HEWn
      have HV1n : Vo W5 (· < W5.heap.size) n' k' _ := HVH1.out.keep (w' := W5) (fun _ _ => by rw [← hW5]; rfl) (fun _ h => by rw [← hW5]; exact h)
      have HV2n : Vo W5 (· < W5.heap.size) m' q' _ := HVH2.out.keep (w' := W5) (fun _ _ => by rw [← hW5]; rfl) (fun _ h => by rw [← hW5]; exact h)
      have HV1h := Lib.hid HV1n
      have HV2h := Lib.hid HV2n
      clear HV1n HV2n hW5
      refine ((unhide HJ) m' q' (d + 1) _ _ _ HC1.out HC2.out HV1h.out HV2h.out).mono ?_
      rintro e w2 ⟨rfl, b2⟩
      have HEW3 := HEWn.below b2
      rcases hcv : (cmpV n' k' m' q' != 0) with _ | _
      · have HN : Hid (V = cmpF true (k.drop (i + 1)) (n.names.drop (i + 1)) (q.drop (i + 1)) (m.names.drop (i + 1))) := by show _ = _; rw [HD.out]; exact if_pos (by simpa using hcv)
        generalize cmpV n' k' m' q' = c at *
        clear HD
        go_wp2_with fail
        go_roundw
        case rel => exact ⟨i + 1, by omega, by omega, by go_num, HN.out, HEW3⟩
        case measure => simp [intOf]; omega
      · have HN : Hid (V = cmpV n' k' m' q') := by show _ = _; rw [HD.out]; exact if_neg (by simpa using hcv)
        generalize cmpV n' k' m' q' = c at *
        clear HD
        go_wp2_with fail
        go_ret
        exact ⟨ret_i (by rw [HN.out]), HEW3.1⟩
    · have HN : Hid (V = cmpI (k.len : Int) (q.len : Int)) := by show _ = _; rw [HI.out]; exact cmpF_end true hi1 hi2 (by omega)
      clear HI
      have hend : i = k.len ∨ i = q.len := by omega
      have HE := Lib.hid hend
      clear hend hlt
      obtain rfl : i = k.len := by have := HE.out; omega
      go_wp2_with fail
      refine (cmpInt_any (k.len : Int) (q.len : Int) _).mono ?_
      rintro e w1 ⟨rfl, rfl⟩
      go_wp2_with fail
      go_ret
      exact ⟨ret_i (by rw [HN.out]), bds⟩
end Go.Proofs.Ytfcbcbpnlnkpcaa

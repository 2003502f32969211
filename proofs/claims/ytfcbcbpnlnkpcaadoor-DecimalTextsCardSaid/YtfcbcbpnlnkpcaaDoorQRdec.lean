/- scrivenerref6: of, neg, ten, by: wide numbers of the document. -/
import Derived.Test.YtfcbcbpnlnkpcaaDoorQRdecPlus
import Derived.Test.YtfcbcbpnlnkpcaaDoorQRnumb
namespace Go.Proofs.YtfcbcbpnlnkpcaaDoor
set_option linter.all false
open Go.RowKit
set_option maxRecDepth 100000 in
set_option maxHeartbeats 800000 in
theorem rof_any (n : Int) (hn : I64 n) (w : World) :
    Calls Tryd.prog 34 #[.int .i64 n] w
      (Ret (.agg #[.int .u64 0, .int .u64 (n.natAbs : Int), .bool (decide (n < 0))]) w) := by
  have hc : Hid (∀ w, Calls Tryd.prog 44 #[.int .i64 n] w (RetS (.int .u64 (n.natAbs : Int)) w)) := fun w => rabs_any n hn w
  generalize n.natAbs = m at *
  go_enter Tryd.func34, Tryd.ntmps34
  go_wp2_with (go_at_call 44; refine (hc.out _).mono ?_; rintro e w' ⟨rfl, rfl⟩)
  refine bodyPost_ret (v := .agg #[.int .u64 0, .int .u64 m, .bool (decide (n < 0))]) (by simp [results, Tryd.results34, go_sem]) rfl ⟨rfl, ?_⟩
  exact (Below.refl _ _).alloc (Nat.le_refl _) _
theorem Blk.three_set {wr : World} {g : Nat} {T : TypeId} {a0 a1 a2 v0 v1 v2 : Value} (h : Blk wr g #[a0, a1, a2] T) :
    Blk (((wr.setCell ⟨g, 0, none⟩ v0).setCell ⟨g, 1, none⟩ v1).setCell ⟨g, 2, none⟩ v2) g #[v0, v1, v2] T := by
  have := ((h.set 0 v0).set 1 v1).set 2 v2
  simpa using this
theorem results_wide {fn : Func} {p q : Tmp} (hfn : fn.results = #[.cell p 60, .tmp q]) {W : World} {tmps : Array Value} {g : Nat} {v0 v1 v2 e : Value} (h4 : tmps[p]?.getD undef = .pointer (some ⟨g, 0, none⟩)) (h5 : tmps[q]?.getD undef = e)
    (h : Blk W g #[v0, v1, v2] 60) : (results fn tmps).run Tryd.prog W = .ok (.tuple #[.agg #[v0, v1, v2], e]) W := by
  have y0 : W.cell? ⟨g, 0, none⟩ = some v0 := h.cell 0
  have y1 : W.cell? ⟨g, 1, none⟩ = some v1 := h.cell 1
  have y2 : W.cell? ⟨g, 2, none⟩ = some v2 := h.cell 2
  simp [results, hfn, go_sem, h4, h5, y0, y1, y2]
set_option maxRecDepth 100000 in
set_option maxHeartbeats 800000 in
theorem ten_any (h l : Nat) (x : Bool) (hh : h < 18446744073709551616) (hl : l < 18446744073709551616) (w : World) :
    Calls Tryd.prog 54 #[.agg #[.int .u64 h, .int .u64 l, .bool x]] w
      (Ret (.tuple #[.agg #[.int .u64 ((h / 10 : Nat) : Int), .int .u64 (((h % 10 * 18446744073709551616 + l) / 10 : Nat) : Int), .bool x], .int .u64 (((h % 10 * 18446744073709551616 + l) % 10 : Nat) : Int)]) w) := by
  obtain ⟨Q, HQ⟩ : ∃ Q : Nat, Hid (Q = (h % 10 * 18446744073709551616 + l) / 10) := ⟨_, rfl⟩
  obtain ⟨r, Hr⟩ : ∃ r : Nat, Hid (r = (h % 10 * 18446744073709551616 + l) % 10) := ⟨_, rfl⟩
  have HC : Hid (∀ w : World, Calls Tryd.prog 53 #[.int .u64 ((h : Int) % 10), .int .u64 l, .int .u64 10] w (RetQ (.tuple #[.int .u64 (Q : Int), .int .u64 (r : Int)]) w)) := fun w => by
    have := div64_any (h % 10) l (Nat.mod_lt _ (by decide)) hl w
    rw [HQ.out, Hr.out]
    simpa using this
  rw [← HQ.out, ← Hr.out]
  go_enter Tryd.func54, Tryd.ntmps54
  go_wp2_with fail
  go_quiet (fail)
  go_wp2_with (go_at_call 53; refine (HC.out _).mono ?_; rintro e w' ⟨rfl, m2, rfl⟩)
  have b1 : Blk ((w.alloc (.cells #[.int .u64 h, .int .u64 l, .bool x] 60)).alloc (.cells #[.int .u64 0, .int .u64 0, .bool false] 60)) (w.heap.size + 1) #[.int .u64 0, .int .u64 0, .bool false] 60 := by
    have := Blk.new (w.alloc (.cells #[.int .u64 h, .int .u64 l, .bool x] 60)) #[.int .u64 0, .int .u64 0, .bool false] 60
    simpa using this
  refine bodyPost_ret (results_wide Tryd.results54 rfl rfl (Blk.three_set (wr := World.drewN _ _) b1)) rfl ⟨rfl, ?_⟩
  exact (((below_drewN (((Below.refl _ _).alloc (Nat.le_refl _) _).alloc (by simp) _) _).setCell (Nat.le_succ _) _).setCell (Nat.le_succ _) _).setCell (Nat.le_succ _) _
set_option maxRecDepth 100000 in
set_option maxHeartbeats 800000 in
/-- by: a wide number below 2^64 by another. -/
theorem by_any (l p : Nat) (x : Bool) (hl : l < 18446744073709551616) (hp : p < 18446744073709551616) (w : World) :
    Calls Tryd.prog 40 #[.agg #[.int .u64 0, .int .u64 l, .bool x], .int .u64 p] w
      (Ret (.tuple #[.agg #[.int .u64 ((l * p / 18446744073709551616 : Nat) : Int), .int .u64 ((l * p % 18446744073709551616 : Nat) : Int), .bool x], .bool true]) w) := by
  obtain ⟨A, HA⟩ : ∃ A : Nat, Hid (A = l * p / 18446744073709551616) := ⟨_, rfl⟩
  obtain ⟨B, HB⟩ : ∃ B : Nat, Hid (B = l * p % 18446744073709551616) := ⟨_, rfl⟩
  have hA : A < 18446744073709551616 := by
    rw [HA.out]
    exact Nat.div_lt_of_lt_mul (Nat.mul_lt_mul'' hl hp)
  have c1 : Hid (∀ w, Calls Tryd.prog 38 #[.int .u64 l, .int .u64 p] w (RetS (.tuple #[.int .u64 (A : Int), .int .u64 (B : Int)]) w)) := fun w => by rw [HA.out, HB.out]; exact mul64_any l p hl hp w
  have c2 : Hid (∀ w, Calls Tryd.prog 38 #[.int .u64 0, .int .u64 p] w (RetS (.tuple #[.int .u64 0, .int .u64 0]) w)) := fun w => by have := mul64_any 0 p (by decide) hp w; simpa using this
  have k1 : ∀ w : World, (callFunc 57 #[.int .u64 0, .int .u64 A, .int .u64 0]).run Tryd.prog w = .ok (.value (.tuple #[.int .u64 (A : Int), .int .u64 0])) w := fun w => by
    have := add64_any 0 A 0 (by decide) w
    rw [show (0 + A + 0) % 18446744073709551616 = A from by omega, show (0 + A + 0) / 18446744073709551616 = 0 from by omega] at this
    exact this
  rw [← HA.out, ← HB.out]
  clear hA
  go_enter Tryd.func40, Tryd.ntmps40
  go_upto_region 2 with (go_at_call 38; refine (c1.out _).mono ?_; rintro e w' ⟨rfl, rfl⟩)
  go_wp2_with (go_at_call 38; refine (c2.out _).mono ?_; rintro e w' ⟨rfl, rfl⟩)
  refine bodyPost_ret (v := .tuple #[.agg #[.int .u64 A, .int .u64 B, .bool x], .bool true]) (by simp [results, Tryd.results40, go_sem]) rfl ⟨rfl, ?_⟩
  exact ((Below.refl _ _).alloc (Nat.le_refl _) _).alloc (by simp) _
end Go.Proofs.YtfcbcbpnlnkpcaaDoor

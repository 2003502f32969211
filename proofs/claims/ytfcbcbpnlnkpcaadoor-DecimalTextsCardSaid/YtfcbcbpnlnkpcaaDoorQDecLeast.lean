/- decimal: the least form of a wide number. (Printed by a small program of mine, gen/mkleast.py.) -/
import Derived.Test.YtfcbcbpnlnkpcaaDoorQDp
import Derived.Test.YtfcbcbpnlnkpcaaDoorQBase
namespace Go.Proofs.YtfcbcbpnlnkpcaaDoor
set_option linter.all false
open Go.RowKit
/-- What is answered of a number, or of none. -/
def numv (n : Nd) : Value := .agg #[.int .i64 n.kind, .int .i64 n.int, .int .i64 n.scale, .string (str n.text), .slice none 0 0, .slice none 0 0]
def ansv (o : Option Nd) : Value := match o with
  | some n => .tuple #[numv n, .int .i64 0]
  | none => .tuple #[.agg #[.int .i64 0, .int .i64 0, .int .i64 0, .string ⟨#[]⟩, .slice none 0 0, .slice none 0 0], .int .i64 10]
theorem sg_nat (b : Bool) (m : Nat) : (sg b m).natAbs = m := by cases b <;> simp [sg]
theorem sg_mod (b : Bool) (m : Nat) : (sg b m % 10 = 0) ↔ m % 10 = 0 := by cases b <;> simp [sg] <;> omega
theorem sg_div (b : Bool) (m : Nat) (h : m % 10 = 0) : sg b m / 10 = sg b (m / 10) := by cases b <;> simp [sg] <;> omega
/-- One step of the loop. -/
theorem red_step {b : Bool} {m s : Nat} (h : m % 10 = 0) : red (s + 1) (sg b m) = red s (sg b (m / 10)) := by
  conv => lhs; unfold red
  rw [if_pos ((sg_mod b m).2 h), sg_div b m h]
theorem red_stop {b : Bool} {m s : Nat} (h : ¬ m % 10 = 0) : red (s + 1) (sg b m) = (sg b m, s + 1) := red_self (.inr (fun e => h ((sg_mod b m).1 e)))
theorem u64_or_zero (a b : Nat) (ha : a < 18446744073709551616) (hb : b < 18446744073709551616) : (bits .or .u64 (a : Int) (b : Int) = 0) ↔ (a = 0 ∧ b = 0) := by
  rw [(bits_nat .u64 64 (by decide) wraps_u64 a b (by omega) (by omega)).2]
  constructor
  · intro h
    have : a ||| b = 0 := by omega
    exact Nat.or_eq_zero_iff.1 this
  · rintro ⟨rfl, rfl⟩; rfl
theorem wneg {l : Nat} (h : l ≤ 9223372036854775808) : wrap64 (IntKind.u64.wrap (-(l : Int))) = -(l : Int) := by rw [IntKind.wrap_u64]; unfold wrap64; omega
theorem Blk.six_set {wr : World} {g : Nat} {T : TypeId} {a0 a1 a2 a3 a4 a5 v0 v1 v2 v3 v4 v5 : Value} (h : Blk wr g #[a0, a1, a2, a3, a4, a5] T) :
    Blk ((((((wr.setCell ⟨g, 0, none⟩ v0).setCell ⟨g, 1, none⟩ v1).setCell ⟨g, 2, none⟩ v2).setCell ⟨g, 3, none⟩ v3).setCell ⟨g, 4, none⟩ v4).setCell ⟨g, 5, none⟩ v5) g #[v0, v1, v2, v3, v4, v5] T := by
  have := (((((h.set 0 v0).set 1 v1).set 2 v2).set 3 v3).set 4 v4).set 5 v5
  simpa using this
theorem results_val {fn : Func} {p q : Tmp} (hfn : fn.results = #[.cell p 25, .tmp q]) {W : World} {tmps : Array Value} {g : Nat} {v0 v1 v2 v3 v4 v5 e : Value} (h4 : tmps[p]?.getD undef = .pointer (some ⟨g, 0, none⟩)) (h5 : tmps[q]?.getD undef = e)
    (h : Blk W g #[v0, v1, v2, v3, v4, v5] 25) : (results fn tmps).run Tryd.prog W = .ok (.tuple #[.agg #[v0, v1, v2, v3, v4, v5], e]) W := by
  have y0 : W.cell? ⟨g, 0, none⟩ = some v0 := h.cell 0
  have y1 : W.cell? ⟨g, 1, none⟩ = some v1 := h.cell 1
  have y2 : W.cell? ⟨g, 2, none⟩ = some v2 := h.cell 2
  have y3 : W.cell? ⟨g, 3, none⟩ = some v3 := h.cell 3
  have y4 : W.cell? ⟨g, 4, none⟩ = some v4 := h.cell 4
  have y5 : W.cell? ⟨g, 5, none⟩ = some v5 := h.cell 5
  simp [results, hfn, go_sem, h4, h5, y0, y1, y2, y3, y4, y5]
/-- The end of a function that answers a value and a number: the value's cells are written, then read. -/
theorem ret6 {fn : Func} {p q : Tmp} (hfn : fn.results = #[.cell p 25, .tmp q]) {wr w : World} {tmps : Array Value} {g : Nat} {a0 a1 a2 a3 a4 a5 v0 v1 v2 v3 v4 v5 e V : Value} (h4 : tmps[p]?.getD undef = .pointer (some ⟨g, 0, none⟩)) (h5 : tmps[q]?.getD undef = e)
    (RB : Blk wr g #[a0, a1, a2, a3, a4, a5] 25) (hg : w.heap.size ≤ g) (BW : Below w.heap.size w wr) (hV : V = .tuple #[.agg #[v0, v1, v2, v3, v4, v5], e]) :
    bodyPost Tryd.prog fn (Ret V w) .ret ⟨tmps, []⟩ ((((((wr.setCell ⟨g, 0, none⟩ v0).setCell ⟨g, 1, none⟩ v1).setCell ⟨g, 2, none⟩ v2).setCell ⟨g, 3, none⟩ v3).setCell ⟨g, 4, none⟩ v4).setCell ⟨g, 5, none⟩ v5) :=
  bodyPost_ret (results_val hfn h4 h5 RB.six_set) rfl ⟨by rw [hV], (((((BW.setCell hg _).setCell hg _).setCell hg _).setCell hg _).setCell hg _).setCell hg _⟩
set_option maxRecDepth 100000 in
set_option maxHeartbeats 6400000 in
theorem least_false (a b : Nat) (ha : a < 18446744073709551616) (hb : b < 18446744073709551616) (s : Nat) (hs : s ≤ 9223372036854775807) (w : World) :
    Calls Tryd.prog 32 #[.agg #[.int .u64 a, .int .u64 b, .bool false], .int .i64 s] w
      (Ret (ansv (leastP (sg false (a * 18446744073709551616 + b)) s)) w) := by
  have b0 : Blk ((w.alloc (.cells #[.int .u64 a, .int .u64 b, .bool false] 55)).alloc (.cells #[.int .i64 0, .int .i64 0, .int .i64 0, .string ⟨#[]⟩, .slice none 0 0, .slice none 0 0] 25)) w.heap.size #[.int .u64 a, .int .u64 b, .bool false] 55 := (Blk.new w _ _).alloc _
  have b1 : Blk ((w.alloc (.cells #[.int .u64 a, .int .u64 b, .bool false] 55)).alloc (.cells #[.int .i64 0, .int .i64 0, .int .i64 0, .string ⟨#[]⟩, .slice none 0 0, .slice none 0 0] 25)) (w.heap.size + 1) #[.int .i64 0, .int .i64 0, .int .i64 0, .string ⟨#[]⟩, .slice none 0 0, .slice none 0 0] 25 := by
    have := Blk.new (w.alloc (.cells #[.int .u64 a, .int .u64 b, .bool false] 55)) #[.int .i64 0, .int .i64 0, .int .i64 0, .string ⟨#[]⟩, .slice none 0 0, .slice none 0 0] 25
    simpa using this
  have b2 : Below w.heap.size w ((w.alloc (.cells #[.int .u64 a, .int .u64 b, .bool false] 55)).alloc (.cells #[.int .i64 0, .int .i64 0, .int .i64 0, .string ⟨#[]⟩, .slice none 0 0, .slice none 0 0] 25)) := ((Below.refl _ _).alloc (Nat.le_refl _) _).alloc (by simp) _
  generalize hW : (w.alloc (.cells #[.int .u64 a, .int .u64 b, .bool false] 55)).alloc (.cells #[.int .i64 0, .int .i64 0, .int .i64 0, .string ⟨#[]⟩, .slice none 0 0, .slice none 0 0] 25) = Wb at *
  have B0 := Lib.hid b0; have B1 := Lib.hid b1; have B2 := Lib.hid b2
  clear b0 b1 b2
  generalize hR : red s (sg false (a * 18446744073709551616 + b)) = R
  have HR := Lib.hid hR
  have HF : Hid (leastP (sg false (a * 18446744073709551616 + b)) s = if fits R.1 R.2 then some (nodeOf R.1 R.2) else none) := by show _ = _; unfold leastP; rw [hR]
  generalize leastP (sg false (a * 18446744073709551616 + b)) s = LP at *
  clear hR
  go_enter Tryd.func32, Tryd.ntmps32
  go_wp2_with fail
  clear hW
  go_loopw [1] (fun s1 wr => ∃ h l t : Nat, s1 = .int .i64 t ∧ h < 18446744073709551616 ∧ l < 18446744073709551616 ∧ t ≤ s ∧ Hid (red t (sg false (h * 18446744073709551616 + l)) = R) ∧
    Hid (Blk wr w.heap.size #[.int .u64 h, .int .u64 l, .bool false] 55) ∧ Hid (Blk wr (w.heap.size + 1) #[.int .i64 0, .int .i64 0, .int .i64 0, .string ⟨#[]⟩, .slice none 0 0, .slice none 0 0] 25) ∧ Hid (Below w.heap.size w wr)) (fun s1 _ => (intOf s1).toNat)
  case atStart => exact ⟨a, b, s, rfl, ha, hb, Nat.le_refl _, HR, B0, B1, B2⟩
  case round =>
    obtain ⟨h, l, T, rfl, hh, hl, hts, HX0, KB, RB, BW⟩ := hrel
    have y0 : wr.cell? ⟨w.heap.size, 0, none⟩ = some (.int .u64 h) := KB.out.cell 0
    have y1 : wr.cell? ⟨w.heap.size, 1, none⟩ = some (.int .u64 l) := KB.out.cell 1
    have y2 : wr.cell? ⟨w.heap.size, 2, none⟩ = some (.bool false) := KB.out.cell 2
    have f0 := KB.out.free 0
    have f1 := KB.out.free 1
    rcases Nat.eq_zero_or_pos T with h0 | h0
    · subst h0
      have HX : Hid (R = (sg false (h * 18446744073709551616 + l), 0)) := by show _ = _; rw [← HX0.out]; rfl
      clear HX0
      go_upto_region 9 with fail
      have p0 : wr.cell? ⟨w.heap.size + 1, 0, none⟩ = some (.int .i64 0) := RB.out.cell 0
      have q_0 := RB.out.free 0
      have p1 : wr.cell? ⟨w.heap.size + 1, 1, none⟩ = some (.int .i64 0) := RB.out.cell 1
      have q_1 := RB.out.free 1
      have p2 : wr.cell? ⟨w.heap.size + 1, 2, none⟩ = some (.int .i64 0) := RB.out.cell 2
      have q_2 := RB.out.free 2
      have p3 : wr.cell? ⟨w.heap.size + 1, 3, none⟩ = some (.string ⟨#[]⟩) := RB.out.cell 3
      have q_3 := RB.out.free 3
      have p4 : wr.cell? ⟨w.heap.size + 1, 4, none⟩ = some (.slice none 0 0) := RB.out.cell 4
      have q_4 := RB.out.free 4
      have p5 : wr.cell? ⟨w.heap.size + 1, 5, none⟩ = some (.slice none 0 0) := RB.out.cell 5
      have q_5 := RB.out.free 5
      rcases (by omega : (0 < h) ∨ (h = 0 ∧ 9223372036854775807 < l) ∨ (h = 0 ∧ l ≤ 9223372036854775807)) with hB | ⟨hB, hC⟩ | ⟨hB, hC⟩
      · have q2 : ¬ ((h : Int) = 0) := by omega
        have HN : Hid (LP = none) := by
          show _ = _
          rw [HF.out, HX.out, if_neg (by simp [fits, sg]; omega)]
        clear HF HX
        go_wp2_with fail
        first
          | exact ret6 Tryd.results32 rfl rfl RB.out (Nat.le_succ _) BW.out (by rw [HN.out]; first | (simp [ansv, numv, sg, str]; done) | (simp [ansv, numv, sg, str]; exact (wneg hC).symm))
      · subst hB
        have q2 : (9223372036854775807 : Int) < (l : Int) := by omega
        have HN : Hid (LP = none) := by
          show _ = _
          rw [HF.out, HX.out, if_neg (by simp [fits, sg]; omega)]
        clear HF HX
        go_wp2_with fail
        first
          | exact ret6 Tryd.results32 rfl rfl RB.out (Nat.le_succ _) BW.out (by rw [HN.out]; first | (simp [ansv, numv, sg, str]; done) | (simp [ansv, numv, sg, str]; exact (wneg hC).symm))
      · subst hB
        have q2 : ¬ ((9223372036854775807 : Int) < (l : Int)) := by omega
        have HN : Hid (LP = some ⟨3, sg false l, 0, [], []⟩) := by
          show _ = _
          rw [HF.out, HX.out, if_pos (by first | (simp [fits, sg]; done) | (simp [fits, sg]; omega))]
          simp [nodeOf, sg]
        clear HF HX
        go_wp2_with fail
        first
          | exact ret6 Tryd.results32 rfl rfl RB.out (Nat.le_succ _) BW.out (by rw [HN.out]; first | (simp [ansv, numv, sg, str]; done) | (simp [ansv, numv, sg, str]; exact (wneg hC).symm))
    · have g0 : (0 : Int) < (T : Int) := by omega
      go_wp2_with fail
      go_quiet (fail)
      obtain ⟨Q, HQ⟩ : ∃ Q : Nat, Hid (Q = (h % 10 * 18446744073709551616 + l) / 10) := ⟨_, rfl⟩
      obtain ⟨r, Hr⟩ : ∃ r : Nat, Hid (r = (h % 10 * 18446744073709551616 + l) % 10) := ⟨_, rfl⟩
      have HC : Hid (∀ w : World, Calls Tryd.prog 53 #[.int .u64 ((h : Int) % 10), .int .u64 l, .int .u64 10] w (RetQ (.tuple #[.int .u64 (Q : Int), .int .u64 (r : Int)]) w)) := fun w => by
        have := div64_any (h % 10) l (Nat.mod_lt _ (by decide)) hl w
        rw [HQ.out, Hr.out]
        simpa using this
      have hlen : Hid (T = (T - 1) + 1) := by show _ = _; omega
      rcases Nat.eq_zero_or_pos r with r0 | r0
      · subst r0
        have hm : (h * 18446744073709551616 + l) % 10 = 0 := by have := Hr.out; omega
        rcases (by omega : (h = 0 ∧ l = 0) ∨ ¬ (h = 0 ∧ l = 0)) with hz | hz
        · obtain ⟨rfl, rfl⟩ := hz
          have HX : Hid (R = (sg false (0 * 18446744073709551616 + 0), 0)) := by show _ = _; rw [← HX0.out]; exact red_zero _
          have hor : bits .or .u64 0 0 = 0 := rfl
          clear HX0 hm hlen
          go_upto_region 9 with (go_at_call 53; refine (HC.out _).mono ?_; rintro e w' ⟨rfl, m2, rfl⟩)
          have KZ : Hid (Blk (wr.drewN (nq + m2)) w.heap.size #[.int .u64 0, .int .u64 0, .bool false] 55) := KB.out
          have RZ : Hid (Blk (wr.drewN (nq + m2)) (w.heap.size + 1) #[.int .i64 0, .int .i64 0, .int .i64 0, .string ⟨#[]⟩, .slice none 0 0, .slice none 0 0] 25) := RB.out
          have BZ : Hid (Below w.heap.size w (wr.drewN (nq + m2))) := below_drewN BW.out _
          have z0 : (wr.drewN (nq + m2)).cell? ⟨w.heap.size, 0, none⟩ = some (.int .u64 0) := KZ.out.cell 0
          have z1 : (wr.drewN (nq + m2)).cell? ⟨w.heap.size, 1, none⟩ = some (.int .u64 0) := KZ.out.cell 1
          have z2 : (wr.drewN (nq + m2)).cell? ⟨w.heap.size, 2, none⟩ = some (.bool false) := KZ.out.cell 2
          have p0 : (wr.drewN (nq + m2)).cell? ⟨w.heap.size + 1, 0, none⟩ = some (.int .i64 0) := RZ.out.cell 0
          have q_0 := RZ.out.free 0
          have p1 : (wr.drewN (nq + m2)).cell? ⟨w.heap.size + 1, 1, none⟩ = some (.int .i64 0) := RZ.out.cell 1
          have q_1 := RZ.out.free 1
          have p2 : (wr.drewN (nq + m2)).cell? ⟨w.heap.size + 1, 2, none⟩ = some (.int .i64 0) := RZ.out.cell 2
          have q_2 := RZ.out.free 2
          have p3 : (wr.drewN (nq + m2)).cell? ⟨w.heap.size + 1, 3, none⟩ = some (.string ⟨#[]⟩) := RZ.out.cell 3
          have q_3 := RZ.out.free 3
          have p4 : (wr.drewN (nq + m2)).cell? ⟨w.heap.size + 1, 4, none⟩ = some (.slice none 0 0) := RZ.out.cell 4
          have q_4 := RZ.out.free 4
          have p5 : (wr.drewN (nq + m2)).cell? ⟨w.heap.size + 1, 5, none⟩ = some (.slice none 0 0) := RZ.out.cell 5
          have q_5 := RZ.out.free 5
          generalize hWZ : (wr.drewN (nq + m2)) = wz at *
          clear y0 y1 y2 f0 f1 KB RB BW hWZ
          have q2 : ¬ ((9223372036854775807 : Int) < 0) := by omega
          have HN : Hid (LP = some ⟨3, sg false 0, 0, [], []⟩) := by
            show _ = _
            rw [HF.out, HX.out, if_pos (by first | (simp [fits, sg]; done) | (simp [fits, sg]; omega))]
            simp [nodeOf, sg]
          clear HF HX
          go_wp2_with fail
          first
            | exact ret6 Tryd.results32 rfl rfl RZ.out (Nat.le_succ _) BZ.out (by rw [HN.out]; first | (simp [ansv, numv, sg, str]; done) | (simp [ansv, numv, sg, str]; exact (wneg hC).symm))
        · have HX : Hid (red (T - 1) (sg false (h / 10 * 18446744073709551616 + Q)) = R) := by
            show _ = _
            rw [← HX0.out, hlen.out, red_step hm, Nat.add_sub_cancel, HQ.out]
            congr 2
            omega
          have hor : ¬ (bits .or .u64 (h : Int) (l : Int) = 0) := fun e => hz ((u64_or_zero h l hh hl).1 e)
          have hQ : Q < 18446744073709551616 := by have := HQ.out; omega
          clear HX0 hm hlen
          go_wp2_with (go_at_call 53; refine (HC.out _).mono ?_; rintro e w' ⟨rfl, m2, rfl⟩)
          go_roundw
          case rel => exact ⟨h / 10, Q, T - 1, by congr 1; omega, by omega, hQ, by omega, HX, (by have := (Blk.set (w := wr.drewN (nq + m2)) KB.out 0 (.int .u64 ((h / 10 : Nat) : Int))).set 1 (.int .u64 Q); show Blk _ _ _ _; simpa using this), (show Hid (Blk _ _ _ _) from (RB.out.set_other 0 _ (by omega)).set_other 1 _ (by omega)), (show Hid (Below _ _ _) from ((below_drewN BW.out _).setCell (Nat.le_refl _) _).setCell (Nat.le_refl _) _)⟩
          case measure => simp [intOf]; omega
      · have hm : ¬ (h * 18446744073709551616 + l) % 10 = 0 := by have := Hr.out; omega
        have HX : Hid (R = (sg false (h * 18446744073709551616 + l), T)) := by show _ = _; rw [← HX0.out, hlen.out]; exact red_stop hm
        have g1 : ¬ ((r : Int) = 0) := by omega
        clear HX0 hm hlen
        go_upto_region 9 with (go_at_call 53; refine (HC.out _).mono ?_; rintro e w' ⟨rfl, m2, rfl⟩)
        have KZ : Hid (Blk (wr.drewN (nq + m2)) w.heap.size #[.int .u64 h, .int .u64 l, .bool false] 55) := KB.out
        have RZ : Hid (Blk (wr.drewN (nq + m2)) (w.heap.size + 1) #[.int .i64 0, .int .i64 0, .int .i64 0, .string ⟨#[]⟩, .slice none 0 0, .slice none 0 0] 25) := RB.out
        have BZ : Hid (Below w.heap.size w (wr.drewN (nq + m2))) := below_drewN BW.out _
        have z0 : (wr.drewN (nq + m2)).cell? ⟨w.heap.size, 0, none⟩ = some (.int .u64 h) := KZ.out.cell 0
        have z1 : (wr.drewN (nq + m2)).cell? ⟨w.heap.size, 1, none⟩ = some (.int .u64 l) := KZ.out.cell 1
        have z2 : (wr.drewN (nq + m2)).cell? ⟨w.heap.size, 2, none⟩ = some (.bool false) := KZ.out.cell 2
        have p0 : (wr.drewN (nq + m2)).cell? ⟨w.heap.size + 1, 0, none⟩ = some (.int .i64 0) := RZ.out.cell 0
        have q_0 := RZ.out.free 0
        have p1 : (wr.drewN (nq + m2)).cell? ⟨w.heap.size + 1, 1, none⟩ = some (.int .i64 0) := RZ.out.cell 1
        have q_1 := RZ.out.free 1
        have p2 : (wr.drewN (nq + m2)).cell? ⟨w.heap.size + 1, 2, none⟩ = some (.int .i64 0) := RZ.out.cell 2
        have q_2 := RZ.out.free 2
        have p3 : (wr.drewN (nq + m2)).cell? ⟨w.heap.size + 1, 3, none⟩ = some (.string ⟨#[]⟩) := RZ.out.cell 3
        have q_3 := RZ.out.free 3
        have p4 : (wr.drewN (nq + m2)).cell? ⟨w.heap.size + 1, 4, none⟩ = some (.slice none 0 0) := RZ.out.cell 4
        have q_4 := RZ.out.free 4
        have p5 : (wr.drewN (nq + m2)).cell? ⟨w.heap.size + 1, 5, none⟩ = some (.slice none 0 0) := RZ.out.cell 5
        have q_5 := RZ.out.free 5
        generalize hWZ : (wr.drewN (nq + m2)) = wz at *
        clear y0 y1 y2 f0 f1 KB RB BW hWZ
        rcases (by omega : 18 < T ∨ (T ≤ 18 ∧ 0 < h) ∨ (T ≤ 18 ∧ h = 0 ∧ 9223372036854775807 < l) ∨ (T ≤ 18 ∧ h = 0 ∧ l ≤ 9223372036854775807)) with hA | ⟨hA, hB⟩ | ⟨hA, hB, hC⟩ | ⟨hA, hB, hC⟩
        · have q1 : (18 : Int) < (T : Int) := by omega
          have HN : Hid (LP = none) := by
            show _ = _
            rw [HF.out, HX.out, if_neg (by simp [fits, sg]; omega)]
          clear HF HX
          go_wp2_with fail
          first
            | exact ret6 Tryd.results32 rfl rfl RZ.out (Nat.le_succ _) BZ.out (by rw [HN.out]; first | (simp [ansv, numv, sg, str]; done) | (simp [ansv, numv, sg, str]; exact (wneg hC).symm))
        · have q1 : ¬ ((18 : Int) < (T : Int)) := by omega
          have q2 : ¬ ((h : Int) = 0) := by omega
          have HN : Hid (LP = none) := by
            show _ = _
            rw [HF.out, HX.out, if_neg (by simp [fits, sg]; omega)]
          clear HF HX
          go_wp2_with fail
          first
            | exact ret6 Tryd.results32 rfl rfl RZ.out (Nat.le_succ _) BZ.out (by rw [HN.out]; first | (simp [ansv, numv, sg, str]; done) | (simp [ansv, numv, sg, str]; exact (wneg hC).symm))
        · subst hB
          have q1 : ¬ ((18 : Int) < (T : Int)) := by omega
          have q2 : (9223372036854775807 : Int) < (l : Int) := by omega
          have HN : Hid (LP = none) := by
            show _ = _
            rw [HF.out, HX.out, if_neg (by simp [fits, sg]; omega)]
          clear HF HX
          go_wp2_with fail
          first
            | exact ret6 Tryd.results32 rfl rfl RZ.out (Nat.le_succ _) BZ.out (by rw [HN.out]; first | (simp [ansv, numv, sg, str]; done) | (simp [ansv, numv, sg, str]; exact (wneg hC).symm))
        · subst hB
          have q1 : ¬ ((18 : Int) < (T : Int)) := by omega
          have q2 : ¬ ((9223372036854775807 : Int) < (l : Int)) := by omega
          have q3 : ¬ ((T : Int) = 0) := by omega
          have HN : Hid (LP = some ⟨4, sg false l, T, [], []⟩) := by
            show _ = _
            rw [HF.out, HX.out, if_pos (by first | (simp [fits, sg]; done) | (simp [fits, sg]; omega))]
            simp [nodeOf, sg]; omega
          clear HF HX
          go_wp2_with fail
          first
            | exact ret6 Tryd.results32 rfl rfl RZ.out (Nat.le_succ _) BZ.out (by rw [HN.out]; first | (simp [ansv, numv, sg, str]; done) | (simp [ansv, numv, sg, str]; exact (wneg hC).symm))
set_option maxRecDepth 100000 in
set_option maxHeartbeats 6400000 in
theorem least_true (a b : Nat) (ha : a < 18446744073709551616) (hb : b < 18446744073709551616) (s : Nat) (hs : s ≤ 9223372036854775807) (w : World) :
    Calls Tryd.prog 32 #[.agg #[.int .u64 a, .int .u64 b, .bool true], .int .i64 s] w
      (Ret (ansv (leastP (sg true (a * 18446744073709551616 + b)) s)) w) := by
  have b0 : Blk ((w.alloc (.cells #[.int .u64 a, .int .u64 b, .bool true] 55)).alloc (.cells #[.int .i64 0, .int .i64 0, .int .i64 0, .string ⟨#[]⟩, .slice none 0 0, .slice none 0 0] 25)) w.heap.size #[.int .u64 a, .int .u64 b, .bool true] 55 := (Blk.new w _ _).alloc _
  have b1 : Blk ((w.alloc (.cells #[.int .u64 a, .int .u64 b, .bool true] 55)).alloc (.cells #[.int .i64 0, .int .i64 0, .int .i64 0, .string ⟨#[]⟩, .slice none 0 0, .slice none 0 0] 25)) (w.heap.size + 1) #[.int .i64 0, .int .i64 0, .int .i64 0, .string ⟨#[]⟩, .slice none 0 0, .slice none 0 0] 25 := by
    have := Blk.new (w.alloc (.cells #[.int .u64 a, .int .u64 b, .bool true] 55)) #[.int .i64 0, .int .i64 0, .int .i64 0, .string ⟨#[]⟩, .slice none 0 0, .slice none 0 0] 25
    simpa using this
  have b2 : Below w.heap.size w ((w.alloc (.cells #[.int .u64 a, .int .u64 b, .bool true] 55)).alloc (.cells #[.int .i64 0, .int .i64 0, .int .i64 0, .string ⟨#[]⟩, .slice none 0 0, .slice none 0 0] 25)) := ((Below.refl _ _).alloc (Nat.le_refl _) _).alloc (by simp) _
  generalize hW : (w.alloc (.cells #[.int .u64 a, .int .u64 b, .bool true] 55)).alloc (.cells #[.int .i64 0, .int .i64 0, .int .i64 0, .string ⟨#[]⟩, .slice none 0 0, .slice none 0 0] 25) = Wb at *
  have B0 := Lib.hid b0; have B1 := Lib.hid b1; have B2 := Lib.hid b2
  clear b0 b1 b2
  generalize hR : red s (sg true (a * 18446744073709551616 + b)) = R
  have HR := Lib.hid hR
  have HF : Hid (leastP (sg true (a * 18446744073709551616 + b)) s = if fits R.1 R.2 then some (nodeOf R.1 R.2) else none) := by show _ = _; unfold leastP; rw [hR]
  generalize leastP (sg true (a * 18446744073709551616 + b)) s = LP at *
  clear hR
  go_enter Tryd.func32, Tryd.ntmps32
  go_wp2_with fail
  clear hW
  go_loopw [1] (fun s1 wr => ∃ h l t : Nat, s1 = .int .i64 t ∧ h < 18446744073709551616 ∧ l < 18446744073709551616 ∧ t ≤ s ∧ Hid (red t (sg true (h * 18446744073709551616 + l)) = R) ∧
    Hid (Blk wr w.heap.size #[.int .u64 h, .int .u64 l, .bool true] 55) ∧ Hid (Blk wr (w.heap.size + 1) #[.int .i64 0, .int .i64 0, .int .i64 0, .string ⟨#[]⟩, .slice none 0 0, .slice none 0 0] 25) ∧ Hid (Below w.heap.size w wr)) (fun s1 _ => (intOf s1).toNat)
  case atStart => exact ⟨a, b, s, rfl, ha, hb, Nat.le_refl _, HR, B0, B1, B2⟩
  case round =>
    obtain ⟨h, l, T, rfl, hh, hl, hts, HX0, KB, RB, BW⟩ := hrel
    have y0 : wr.cell? ⟨w.heap.size, 0, none⟩ = some (.int .u64 h) := KB.out.cell 0
    have y1 : wr.cell? ⟨w.heap.size, 1, none⟩ = some (.int .u64 l) := KB.out.cell 1
    have y2 : wr.cell? ⟨w.heap.size, 2, none⟩ = some (.bool true) := KB.out.cell 2
    have f0 := KB.out.free 0
    have f1 := KB.out.free 1
    rcases Nat.eq_zero_or_pos T with h0 | h0
    · subst h0
      have HX : Hid (R = (sg true (h * 18446744073709551616 + l), 0)) := by show _ = _; rw [← HX0.out]; rfl
      clear HX0
      go_upto_region 9 with fail
      have p0 : wr.cell? ⟨w.heap.size + 1, 0, none⟩ = some (.int .i64 0) := RB.out.cell 0
      have q_0 := RB.out.free 0
      have p1 : wr.cell? ⟨w.heap.size + 1, 1, none⟩ = some (.int .i64 0) := RB.out.cell 1
      have q_1 := RB.out.free 1
      have p2 : wr.cell? ⟨w.heap.size + 1, 2, none⟩ = some (.int .i64 0) := RB.out.cell 2
      have q_2 := RB.out.free 2
      have p3 : wr.cell? ⟨w.heap.size + 1, 3, none⟩ = some (.string ⟨#[]⟩) := RB.out.cell 3
      have q_3 := RB.out.free 3
      have p4 : wr.cell? ⟨w.heap.size + 1, 4, none⟩ = some (.slice none 0 0) := RB.out.cell 4
      have q_4 := RB.out.free 4
      have p5 : wr.cell? ⟨w.heap.size + 1, 5, none⟩ = some (.slice none 0 0) := RB.out.cell 5
      have q_5 := RB.out.free 5
      rcases (by omega : (0 < h) ∨ (h = 0 ∧ 9223372036854775808 < l) ∨ (h = 0 ∧ l ≤ 9223372036854775808)) with hB | ⟨hB, hC⟩ | ⟨hB, hC⟩
      · have q2 : ¬ ((h : Int) = 0) := by omega
        have HN : Hid (LP = none) := by
          show _ = _
          rw [HF.out, HX.out, if_neg (by simp [fits, sg]; omega)]
        clear HF HX
        go_wp2_with fail
        first
          | exact ret6 Tryd.results32 rfl rfl RB.out (Nat.le_succ _) BW.out (by rw [HN.out]; first | (simp [ansv, numv, sg, str]; done) | (simp [ansv, numv, sg, str]; exact (wneg hC).symm))
      · subst hB
        have q2 : (9223372036854775808 : Int) < (l : Int) := by omega
        have HN : Hid (LP = none) := by
          show _ = _
          rw [HF.out, HX.out, if_neg (by simp [fits, sg]; omega)]
        clear HF HX
        go_wp2_with fail
        first
          | exact ret6 Tryd.results32 rfl rfl RB.out (Nat.le_succ _) BW.out (by rw [HN.out]; first | (simp [ansv, numv, sg, str]; done) | (simp [ansv, numv, sg, str]; exact (wneg hC).symm))
      · subst hB
        have q2 : ¬ ((9223372036854775808 : Int) < (l : Int)) := by omega
        have HN : Hid (LP = some ⟨3, sg true l, 0, [], []⟩) := by
          show _ = _
          rw [HF.out, HX.out, if_pos (by first | (simp [fits, sg]; done) | (simp [fits, sg]; omega))]
          simp [nodeOf, sg]
        clear HF HX
        go_wp2_with fail
        first
          | exact ret6 Tryd.results32 rfl rfl RB.out (Nat.le_succ _) BW.out (by rw [HN.out]; first | (simp [ansv, numv, sg, str]; done) | (simp [ansv, numv, sg, str]; exact (wneg hC).symm))
    · have g0 : (0 : Int) < (T : Int) := by omega
      go_wp2_with fail
      go_quiet (fail)
      obtain ⟨Q, HQ⟩ : ∃ Q : Nat, Hid (Q = (h % 10 * 18446744073709551616 + l) / 10) := ⟨_, rfl⟩
      obtain ⟨r, Hr⟩ : ∃ r : Nat, Hid (r = (h % 10 * 18446744073709551616 + l) % 10) := ⟨_, rfl⟩
      have HC : Hid (∀ w : World, Calls Tryd.prog 53 #[.int .u64 ((h : Int) % 10), .int .u64 l, .int .u64 10] w (RetQ (.tuple #[.int .u64 (Q : Int), .int .u64 (r : Int)]) w)) := fun w => by
        have := div64_any (h % 10) l (Nat.mod_lt _ (by decide)) hl w
        rw [HQ.out, Hr.out]
        simpa using this
      have hlen : Hid (T = (T - 1) + 1) := by show _ = _; omega
      rcases Nat.eq_zero_or_pos r with r0 | r0
      · subst r0
        have hm : (h * 18446744073709551616 + l) % 10 = 0 := by have := Hr.out; omega
        rcases (by omega : (h = 0 ∧ l = 0) ∨ ¬ (h = 0 ∧ l = 0)) with hz | hz
        · obtain ⟨rfl, rfl⟩ := hz
          have HX : Hid (R = (sg true (0 * 18446744073709551616 + 0), 0)) := by show _ = _; rw [← HX0.out]; exact red_zero _
          have hor : bits .or .u64 0 0 = 0 := rfl
          clear HX0 hm hlen
          go_upto_region 9 with (go_at_call 53; refine (HC.out _).mono ?_; rintro e w' ⟨rfl, m2, rfl⟩)
          have KZ : Hid (Blk (wr.drewN (nq + m2)) w.heap.size #[.int .u64 0, .int .u64 0, .bool true] 55) := KB.out
          have RZ : Hid (Blk (wr.drewN (nq + m2)) (w.heap.size + 1) #[.int .i64 0, .int .i64 0, .int .i64 0, .string ⟨#[]⟩, .slice none 0 0, .slice none 0 0] 25) := RB.out
          have BZ : Hid (Below w.heap.size w (wr.drewN (nq + m2))) := below_drewN BW.out _
          have z0 : (wr.drewN (nq + m2)).cell? ⟨w.heap.size, 0, none⟩ = some (.int .u64 0) := KZ.out.cell 0
          have z1 : (wr.drewN (nq + m2)).cell? ⟨w.heap.size, 1, none⟩ = some (.int .u64 0) := KZ.out.cell 1
          have z2 : (wr.drewN (nq + m2)).cell? ⟨w.heap.size, 2, none⟩ = some (.bool true) := KZ.out.cell 2
          have p0 : (wr.drewN (nq + m2)).cell? ⟨w.heap.size + 1, 0, none⟩ = some (.int .i64 0) := RZ.out.cell 0
          have q_0 := RZ.out.free 0
          have p1 : (wr.drewN (nq + m2)).cell? ⟨w.heap.size + 1, 1, none⟩ = some (.int .i64 0) := RZ.out.cell 1
          have q_1 := RZ.out.free 1
          have p2 : (wr.drewN (nq + m2)).cell? ⟨w.heap.size + 1, 2, none⟩ = some (.int .i64 0) := RZ.out.cell 2
          have q_2 := RZ.out.free 2
          have p3 : (wr.drewN (nq + m2)).cell? ⟨w.heap.size + 1, 3, none⟩ = some (.string ⟨#[]⟩) := RZ.out.cell 3
          have q_3 := RZ.out.free 3
          have p4 : (wr.drewN (nq + m2)).cell? ⟨w.heap.size + 1, 4, none⟩ = some (.slice none 0 0) := RZ.out.cell 4
          have q_4 := RZ.out.free 4
          have p5 : (wr.drewN (nq + m2)).cell? ⟨w.heap.size + 1, 5, none⟩ = some (.slice none 0 0) := RZ.out.cell 5
          have q_5 := RZ.out.free 5
          generalize hWZ : (wr.drewN (nq + m2)) = wz at *
          clear y0 y1 y2 f0 f1 KB RB BW hWZ
          have q2 : ¬ ((9223372036854775808 : Int) < 0) := by omega
          have HN : Hid (LP = some ⟨3, sg true 0, 0, [], []⟩) := by
            show _ = _
            rw [HF.out, HX.out, if_pos (by first | (simp [fits, sg]; done) | (simp [fits, sg]; omega))]
            simp [nodeOf, sg]
          clear HF HX
          go_wp2_with fail
          first
            | exact ret6 Tryd.results32 rfl rfl RZ.out (Nat.le_succ _) BZ.out (by rw [HN.out]; first | (simp [ansv, numv, sg, str]; done) | (simp [ansv, numv, sg, str]; exact (wneg hC).symm))
        · have HX : Hid (red (T - 1) (sg true (h / 10 * 18446744073709551616 + Q)) = R) := by
            show _ = _
            rw [← HX0.out, hlen.out, red_step hm, Nat.add_sub_cancel, HQ.out]
            congr 2
            omega
          have hor : ¬ (bits .or .u64 (h : Int) (l : Int) = 0) := fun e => hz ((u64_or_zero h l hh hl).1 e)
          have hQ : Q < 18446744073709551616 := by have := HQ.out; omega
          clear HX0 hm hlen
          go_wp2_with (go_at_call 53; refine (HC.out _).mono ?_; rintro e w' ⟨rfl, m2, rfl⟩)
          go_roundw
          case rel => exact ⟨h / 10, Q, T - 1, by congr 1; omega, by omega, hQ, by omega, HX, (by have := (Blk.set (w := wr.drewN (nq + m2)) KB.out 0 (.int .u64 ((h / 10 : Nat) : Int))).set 1 (.int .u64 Q); show Blk _ _ _ _; simpa using this), (show Hid (Blk _ _ _ _) from (RB.out.set_other 0 _ (by omega)).set_other 1 _ (by omega)), (show Hid (Below _ _ _) from ((below_drewN BW.out _).setCell (Nat.le_refl _) _).setCell (Nat.le_refl _) _)⟩
          case measure => simp [intOf]; omega
      · have hm : ¬ (h * 18446744073709551616 + l) % 10 = 0 := by have := Hr.out; omega
        have HX : Hid (R = (sg true (h * 18446744073709551616 + l), T)) := by show _ = _; rw [← HX0.out, hlen.out]; exact red_stop hm
        have g1 : ¬ ((r : Int) = 0) := by omega
        clear HX0 hm hlen
        go_upto_region 9 with (go_at_call 53; refine (HC.out _).mono ?_; rintro e w' ⟨rfl, m2, rfl⟩)
        have KZ : Hid (Blk (wr.drewN (nq + m2)) w.heap.size #[.int .u64 h, .int .u64 l, .bool true] 55) := KB.out
        have RZ : Hid (Blk (wr.drewN (nq + m2)) (w.heap.size + 1) #[.int .i64 0, .int .i64 0, .int .i64 0, .string ⟨#[]⟩, .slice none 0 0, .slice none 0 0] 25) := RB.out
        have BZ : Hid (Below w.heap.size w (wr.drewN (nq + m2))) := below_drewN BW.out _
        have z0 : (wr.drewN (nq + m2)).cell? ⟨w.heap.size, 0, none⟩ = some (.int .u64 h) := KZ.out.cell 0
        have z1 : (wr.drewN (nq + m2)).cell? ⟨w.heap.size, 1, none⟩ = some (.int .u64 l) := KZ.out.cell 1
        have z2 : (wr.drewN (nq + m2)).cell? ⟨w.heap.size, 2, none⟩ = some (.bool true) := KZ.out.cell 2
        have p0 : (wr.drewN (nq + m2)).cell? ⟨w.heap.size + 1, 0, none⟩ = some (.int .i64 0) := RZ.out.cell 0
        have q_0 := RZ.out.free 0
        have p1 : (wr.drewN (nq + m2)).cell? ⟨w.heap.size + 1, 1, none⟩ = some (.int .i64 0) := RZ.out.cell 1
        have q_1 := RZ.out.free 1
        have p2 : (wr.drewN (nq + m2)).cell? ⟨w.heap.size + 1, 2, none⟩ = some (.int .i64 0) := RZ.out.cell 2
        have q_2 := RZ.out.free 2
        have p3 : (wr.drewN (nq + m2)).cell? ⟨w.heap.size + 1, 3, none⟩ = some (.string ⟨#[]⟩) := RZ.out.cell 3
        have q_3 := RZ.out.free 3
        have p4 : (wr.drewN (nq + m2)).cell? ⟨w.heap.size + 1, 4, none⟩ = some (.slice none 0 0) := RZ.out.cell 4
        have q_4 := RZ.out.free 4
        have p5 : (wr.drewN (nq + m2)).cell? ⟨w.heap.size + 1, 5, none⟩ = some (.slice none 0 0) := RZ.out.cell 5
        have q_5 := RZ.out.free 5
        generalize hWZ : (wr.drewN (nq + m2)) = wz at *
        clear y0 y1 y2 f0 f1 KB RB BW hWZ
        rcases (by omega : 18 < T ∨ (T ≤ 18 ∧ 0 < h) ∨ (T ≤ 18 ∧ h = 0 ∧ 9223372036854775808 < l) ∨ (T ≤ 18 ∧ h = 0 ∧ l ≤ 9223372036854775808)) with hA | ⟨hA, hB⟩ | ⟨hA, hB, hC⟩ | ⟨hA, hB, hC⟩
        · have q1 : (18 : Int) < (T : Int) := by omega
          have HN : Hid (LP = none) := by
            show _ = _
            rw [HF.out, HX.out, if_neg (by simp [fits, sg]; omega)]
          clear HF HX
          go_wp2_with fail
          first
            | exact ret6 Tryd.results32 rfl rfl RZ.out (Nat.le_succ _) BZ.out (by rw [HN.out]; first | (simp [ansv, numv, sg, str]; done) | (simp [ansv, numv, sg, str]; exact (wneg hC).symm))
        · have q1 : ¬ ((18 : Int) < (T : Int)) := by omega
          have q2 : ¬ ((h : Int) = 0) := by omega
          have HN : Hid (LP = none) := by
            show _ = _
            rw [HF.out, HX.out, if_neg (by simp [fits, sg]; omega)]
          clear HF HX
          go_wp2_with fail
          first
            | exact ret6 Tryd.results32 rfl rfl RZ.out (Nat.le_succ _) BZ.out (by rw [HN.out]; first | (simp [ansv, numv, sg, str]; done) | (simp [ansv, numv, sg, str]; exact (wneg hC).symm))
        · subst hB
          have q1 : ¬ ((18 : Int) < (T : Int)) := by omega
          have q2 : (9223372036854775808 : Int) < (l : Int) := by omega
          have HN : Hid (LP = none) := by
            show _ = _
            rw [HF.out, HX.out, if_neg (by simp [fits, sg]; omega)]
          clear HF HX
          go_wp2_with fail
          first
            | exact ret6 Tryd.results32 rfl rfl RZ.out (Nat.le_succ _) BZ.out (by rw [HN.out]; first | (simp [ansv, numv, sg, str]; done) | (simp [ansv, numv, sg, str]; exact (wneg hC).symm))
        · subst hB
          have q1 : ¬ ((18 : Int) < (T : Int)) := by omega
          have q2 : ¬ ((9223372036854775808 : Int) < (l : Int)) := by omega
          have q3 : ¬ ((T : Int) = 0) := by omega
          have HN : Hid (LP = some ⟨4, sg true l, T, [], []⟩) := by
            show _ = _
            rw [HF.out, HX.out, if_pos (by first | (simp [fits, sg]; done) | (simp [fits, sg]; omega))]
            simp [nodeOf, sg]; omega
          clear HF HX
          go_wp2_with fail
          first
            | exact ret6 Tryd.results32 rfl rfl RZ.out (Nat.le_succ _) BZ.out (by rw [HN.out]; first | (simp [ansv, numv, sg, str]; done) | (simp [ansv, numv, sg, str]; exact (wneg hC).symm))
theorem least_any (v : Value) (M : Int) (hv : WideIs v M) (s : Nat) (hs : s ≤ 9223372036854775807) (w : World) :
    Calls Tryd.prog 32 #[v, .int .i64 s] w (Ret (ansv (leastP M s)) w) := by
  obtain ⟨a, b, x, rfl, ha, hb, rfl⟩ := hv
  cases x
  · exact least_false a b ha hb s hs w
  · exact least_true a b ha hb s hs w
end Go.Proofs.YtfcbcbpnlnkpcaaDoor

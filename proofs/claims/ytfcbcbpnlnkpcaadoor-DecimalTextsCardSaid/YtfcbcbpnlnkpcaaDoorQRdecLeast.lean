/- scrivenerref6: the least form of a wide number. (Printed by a small program of mine, gen/mkrleast.py.) -/
import Derived.Test.YtfcbcbpnlnkpcaaDoorQRdec
import Derived.Test.YtfcbcbpnlnkpcaaDoorQDecLeast
namespace Go.Proofs.YtfcbcbpnlnkpcaaDoor
set_option linter.all false
open Go.RowKit
theorem wneg1 {l : Nat} (h0 : 0 < l) (h : l ≤ 9223372036854775808) : wrap64 (-(wrap64 (IntKind.u64.wrap ((l : Int) - 1))) - 1) = -(l : Int) := by rw [IntKind.wrap_u64]; unfold wrap64; omega
theorem red_nought (X : Bool) (s : Nat) : red s (sg X 0) = (0, 0) := by cases X <;> exact red_zero s
set_option maxRecDepth 100000 in
set_option maxHeartbeats 6400000 in
theorem rleast_false_hi (a b : Nat) (ha : a < 18446744073709551616) (hb : b < 18446744073709551616) (h1 : 0 < a) (s : Nat) (hs : s ≤ 9223372036854775807) (w : World) :
    Calls Tryd.prog 33 #[.agg #[.int .u64 a, .int .u64 b, .bool false], .int .i64 s] w
      (Ret (ansv (leastP (sg false (a * 18446744073709551616 + b)) s)) w) := by
  have b0 : Blk ((w.alloc (.cells #[.int .u64 a, .int .u64 b, .bool false] 60)).alloc (.cells #[.int .i64 0, .int .i64 0, .int .i64 0, .string ⟨#[]⟩, .slice none 0 0, .slice none 0 0] 25)) w.heap.size #[.int .u64 a, .int .u64 b, .bool false] 60 := (Blk.new w _ _).alloc _
  have b1 : Blk ((w.alloc (.cells #[.int .u64 a, .int .u64 b, .bool false] 60)).alloc (.cells #[.int .i64 0, .int .i64 0, .int .i64 0, .string ⟨#[]⟩, .slice none 0 0, .slice none 0 0] 25)) (w.heap.size + 1) #[.int .i64 0, .int .i64 0, .int .i64 0, .string ⟨#[]⟩, .slice none 0 0, .slice none 0 0] 25 := by
    have := Blk.new (w.alloc (.cells #[.int .u64 a, .int .u64 b, .bool false] 60)) #[.int .i64 0, .int .i64 0, .int .i64 0, .string ⟨#[]⟩, .slice none 0 0, .slice none 0 0] 25
    simpa using this
  have b2 : Below w.heap.size w ((w.alloc (.cells #[.int .u64 a, .int .u64 b, .bool false] 60)).alloc (.cells #[.int .i64 0, .int .i64 0, .int .i64 0, .string ⟨#[]⟩, .slice none 0 0, .slice none 0 0] 25)) := ((Below.refl _ _).alloc (Nat.le_refl _) _).alloc (by simp) _
  have b3 : w.heap.size + 2 ≤ ((w.alloc (.cells #[.int .u64 a, .int .u64 b, .bool false] 60)).alloc (.cells #[.int .i64 0, .int .i64 0, .int .i64 0, .string ⟨#[]⟩, .slice none 0 0, .slice none 0 0] 25)).heap.size := by simp
  generalize hW : (w.alloc (.cells #[.int .u64 a, .int .u64 b, .bool false] 60)).alloc (.cells #[.int .i64 0, .int .i64 0, .int .i64 0, .string ⟨#[]⟩, .slice none 0 0, .slice none 0 0] 25) = Wb at *
  have x0 : Wb.cell? ⟨w.heap.size, 0, none⟩ = some (.int .u64 a) := b0.cell 0
  have x1 : Wb.cell? ⟨w.heap.size, 1, none⟩ = some (.int .u64 b) := b0.cell 1
  have B0 := Lib.hid b0; have B1 := Lib.hid b1; have B2 := Lib.hid b2; have B3 := Lib.hid b3
  clear b0 b1 b2 b3
  generalize hR : red s (sg false (a * 18446744073709551616 + b)) = R
  have HR := Lib.hid hR
  have HF : Hid (leastP (sg false (a * 18446744073709551616 + b)) s = if fits R.1 R.2 then some (nodeOf R.1 R.2) else none) := by show _ = _; unfold leastP; rw [hR]
  generalize leastP (sg false (a * 18446744073709551616 + b)) s = LP at *
  clear hR
  have e1 : ((a : Int) == 0) = false := by simp; omega
  go_enter Tryd.func33, Tryd.ntmps33
  go_wp2_with fail
  clear hW x0 x1 e1
  go_loopw [1] (fun s1 wr => ∃ h l t : Nat, s1 = .int .i64 t ∧ h < 18446744073709551616 ∧ l < 18446744073709551616 ∧ t ≤ s ∧ Hid (red t (sg false (h * 18446744073709551616 + l)) = R) ∧
    Hid (Blk wr w.heap.size #[.int .u64 h, .int .u64 l, .bool false] 60) ∧ Hid (Blk wr (w.heap.size + 1) #[.int .i64 0, .int .i64 0, .int .i64 0, .string ⟨#[]⟩, .slice none 0 0, .slice none 0 0] 25) ∧ Hid (Below w.heap.size w wr) ∧ Hid (w.heap.size + 2 ≤ wr.heap.size)) (fun s1 _ => (intOf s1).toNat)
  case atStart => exact ⟨a, b, s, rfl, ha, hb, Nat.le_refl _, HR, B0, B1, B2, B3⟩
  case round =>
    obtain ⟨h, l, T, rfl, hh, hl, hts, HX0, KB, RB, BW, SZ⟩ := hrel
    have y0 : wr.cell? ⟨w.heap.size, 0, none⟩ = some (.int .u64 h) := KB.out.cell 0
    have y1 : wr.cell? ⟨w.heap.size, 1, none⟩ = some (.int .u64 l) := KB.out.cell 1
    have y2 : wr.cell? ⟨w.heap.size, 2, none⟩ = some (.bool false) := KB.out.cell 2
    rcases Nat.eq_zero_or_pos T with h0 | h0
    · subst h0
      have HX : Hid (R = (sg false (h * 18446744073709551616 + l), 0)) := by show _ = _; rw [← HX0.out]; rfl
      clear HX0
      go_upto_region 8 with fail
      have p0 : wr.cell? ⟨w.heap.size + 1, 0, none⟩ = some (.int .i64 0) := RB.out.cell 0
      have q_0 := RB.out.free 0
      have p1 : wr.cell? ⟨w.heap.size + 1, 1, none⟩ = some (.int .i64 0) := RB.out.cell 1
      have q_1 := RB.out.free 1
      have p2 : wr.cell? ⟨w.heap.size + 1, 2, none⟩ = some (.int .i64 0) := RB.out.cell 2
      have q_2 := RB.out.free 2
      have p3 : wr.cell? ⟨w.heap.size + 1, 3, none⟩ = some (.string ⟨#[]⟩) := RB.out.cell 3
      have q_3 := RB.out.free 3
      have p4 : wr.cell? ⟨w.heap.size + 1, 4, none⟩ = some (.slice none 0 0) := RB.out.cell 4
      have q_4 := RB.out.free 4
      have p5 : wr.cell? ⟨w.heap.size + 1, 5, none⟩ = some (.slice none 0 0) := RB.out.cell 5
      have q_5 := RB.out.free 5
      rcases Nat.eq_zero_or_pos h with hB | hB
      · subst hB
        rcases (by omega : (9223372036854775808 < l) ∨ (l = 9223372036854775808) ∨ (0 < l ∧ l < 9223372036854775808) ∨ l = 0) with hC | hC | ⟨hP, hC⟩ | hC
        · have q2 : (9223372036854775808 : Int) < (l : Int) := by omega
          have HN : Hid (LP = none) := by
            show _ = _
            rw [HF.out, HX.out, if_neg (by first | (simp [fits, sg]; done) | (simp [fits, sg]; omega))]
          clear HF HX
          go_wp2_with fail
          exact ret6 Tryd.results33 rfl rfl RB.out (Nat.le_succ _) BW.out (by rw [HN.out]; first | (simp [ansv, numv, sg, str]; done) | (simp [ansv, numv, sg, str]; exact (wneg1 hP hC).symm) | (simp [ansv, numv, sg, str]; assumption) | (simp [ansv, numv, sg, str]; omega))
        · subst hC
          have HN : Hid (LP = none) := by
            show _ = _
            rw [HF.out, HX.out, if_neg (by first | (simp [fits, sg]; done) | (simp [fits, sg]; omega))]
          clear HF HX
          go_wp2_with fail
          exact ret6 Tryd.results33 rfl rfl RB.out (Nat.le_succ _) BW.out (by rw [HN.out]; first | (simp [ansv, numv, sg, str]; done) | (simp [ansv, numv, sg, str]; exact (wneg1 hP hC).symm) | (simp [ansv, numv, sg, str]; assumption) | (simp [ansv, numv, sg, str]; omega))
        · have q2 : ¬ ((9223372036854775808 : Int) < (l : Int)) := by omega
          have q4 : ¬ ((l : Int) = 9223372036854775808) := by omega
          have q5 : ¬ ((l : Int) = 0) := by omega
          have HN : Hid (LP = some ⟨3, sg false l, 0, [], []⟩) := by
            show _ = _
            rw [HF.out, HX.out, if_pos (by first | (simp [fits, sg]; done) | (simp [fits, sg]; omega))]
            simp [nodeOf, sg]
          clear HF HX
          go_wp2_with fail
          exact ret6 Tryd.results33 rfl rfl RB.out (Nat.le_succ _) BW.out (by rw [HN.out]; first | (simp [ansv, numv, sg, str]; done) | (simp [ansv, numv, sg, str]; exact (wneg1 hP hC).symm) | (simp [ansv, numv, sg, str]; assumption) | (simp [ansv, numv, sg, str]; omega))
        · subst hC
          have HN : Hid (LP = some ⟨3, sg false 0, 0, [], []⟩) := by
            show _ = _
            rw [HF.out, HX.out, if_pos (by first | (simp [fits, sg]; done) | (simp [fits, sg]; omega))]
            simp [nodeOf, sg]
          clear HF HX
          go_wp2_with fail
          exact ret6 Tryd.results33 rfl rfl RB.out (Nat.le_succ _) BW.out (by rw [HN.out]; first | (simp [ansv, numv, sg, str]; done) | (simp [ansv, numv, sg, str]; exact (wneg1 hP hC).symm) | (simp [ansv, numv, sg, str]; assumption) | (simp [ansv, numv, sg, str]; omega))
      · have q2 : ¬ ((h : Int) = 0) := by omega
        have HN : Hid (LP = none) := by
          show _ = _
          rw [HF.out, HX.out, if_neg (by first | (simp [fits, sg]; done) | (simp [fits, sg]; omega))]
        clear HF HX
        go_wp2_with fail
        exact ret6 Tryd.results33 rfl rfl RB.out (Nat.le_succ _) BW.out (by rw [HN.out]; first | (simp [ansv, numv, sg, str]; done) | (simp [ansv, numv, sg, str]; exact (wneg1 hP hC).symm) | (simp [ansv, numv, sg, str]; assumption) | (simp [ansv, numv, sg, str]; omega))
    · have g0 : (0 : Int) < (T : Int) := by omega
      obtain ⟨Q, HQ⟩ : ∃ Q : Nat, Hid (Q = (h % 10 * 18446744073709551616 + l) / 10) := ⟨_, rfl⟩
      obtain ⟨r, Hr⟩ : ∃ r : Nat, Hid (r = (h % 10 * 18446744073709551616 + l) % 10) := ⟨_, rfl⟩
      obtain ⟨H, HH⟩ : ∃ H : Nat, Hid (H = h / 10) := ⟨_, rfl⟩
      have HC : Hid (∀ w : World, Calls Tryd.prog 54 #[.agg #[.int .u64 h, .int .u64 l, .bool false]] w (Ret (.tuple #[.agg #[.int .u64 H, .int .u64 Q, .bool false], .int .u64 (r : Int)]) w)) := fun w => by
        rw [HQ.out, Hr.out, HH.out]
        exact ten_any h l false hh hl w
      have hlen : Hid (T = (T - 1) + 1) := by show _ = _; omega
      rcases Nat.eq_zero_or_pos r with r0 | r0
      · subst r0
        have hm : Hid ((h * 18446744073709551616 + l) % 10 = 0) := by have := Hr.out; show _ = _; omega
        have HX : Hid (red (T - 1) (sg false (H * 18446744073709551616 + Q)) = R) := by
          show _ = _
          rw [← HX0.out, hlen.out, red_step hm.out, Nat.add_sub_cancel, HQ.out, HH.out]
          congr 2
          omega
        have hQ : Q < 18446744073709551616 := by have := HQ.out; omega
        have hH : H < 18446744073709551616 := by have := HH.out; omega
        clear HX0 hm hlen
        go_wp2_with (go_at_call 54; refine (HC.out _).mono ?_; rintro e w2 ⟨rfl, bw⟩
                     have KZ : Blk w2 w.heap.size #[.int .u64 h, .int .u64 l, .bool false] 60 := KB.out.below bw (by have := SZ.out; omega)
                     have z0 : w2.cell? ⟨w.heap.size, 0, none⟩ = some (.int .u64 h) := KZ.cell 0
                     have z1 : w2.cell? ⟨w.heap.size, 1, none⟩ = some (.int .u64 l) := KZ.cell 1
                     have z2 : w2.cell? ⟨w.heap.size, 2, none⟩ = some (.bool false) := KZ.cell 2
                     have f0 := KZ.free 0
                     have f1 := KZ.free 1
                     have f2 := KZ.free 2
                     have KZ := Lib.hid KZ
                     have hlt : w.heap.size < w2.heap.size := by have := SZ.out; have := bw.size; omega)
        go_roundw
        case rel => exact ⟨H, Q, T - 1, by congr 1; omega, hH, hQ, by omega, HX, (show Hid (Blk _ _ _ _) from (Blk.three_set KZ.out).alloc _),
          (show Hid (Blk _ _ _ _) from ((((RB.out.below bw (by have := SZ.out; omega)).set_other 0 _ (by omega)).set_other 1 _ (by omega)).set_other 2 _ (by omega)).alloc _),
          (show Hid (Below _ _ _) from ((((BW.out.trans (bw.mono (by have := SZ.out; omega))).setCell (Nat.le_refl _) _).setCell (Nat.le_refl _) _).setCell (Nat.le_refl _) _).alloc (by simp; have := SZ.out; have := bw.size; omega) _),
          (show Hid (_ ≤ _) from by show _ ≤ _; simp; omega)⟩
        case measure => simp [intOf]; omega
      · have hm : Hid (¬ (h * 18446744073709551616 + l) % 10 = 0) := by have := Hr.out; show ¬ _; omega
        have HX : Hid (R = (sg false (h * 18446744073709551616 + l), T)) := by show _ = _; rw [← HX0.out, hlen.out]; exact red_stop hm.out
        have g1 : ¬ ((r : Int) = 0) := by omega
        clear HX0 hm hlen
        go_upto_region 8 with (go_at_call 54; refine (HC.out _).mono ?_; rintro e w2 ⟨rfl, bw⟩)
        have KZ : Hid (Blk (w2.alloc (.cells #[.int .u64 H, .int .u64 Q, .bool false] 60)) w.heap.size #[.int .u64 h, .int .u64 l, .bool false] 60) := (KB.out.below bw (by have := SZ.out; omega)).alloc _
        have RZ : Hid (Blk (w2.alloc (.cells #[.int .u64 H, .int .u64 Q, .bool false] 60)) (w.heap.size + 1) #[.int .i64 0, .int .i64 0, .int .i64 0, .string ⟨#[]⟩, .slice none 0 0, .slice none 0 0] 25) := (RB.out.below bw (by have := SZ.out; omega)).alloc _
        have BZ : Hid (Below w.heap.size w (w2.alloc (.cells #[.int .u64 H, .int .u64 Q, .bool false] 60))) := (BW.out.trans (bw.mono (by have := SZ.out; omega))).alloc (by have := SZ.out; have := bw.size; omega) _
        generalize (w2.alloc (.cells #[.int .u64 H, .int .u64 Q, .bool false] 60)) = wz at *
        have z0 : wz.cell? ⟨w.heap.size, 0, none⟩ = some (.int .u64 h) := KZ.out.cell 0
        have z1 : wz.cell? ⟨w.heap.size, 1, none⟩ = some (.int .u64 l) := KZ.out.cell 1
        have z2 : wz.cell? ⟨w.heap.size, 2, none⟩ = some (.bool false) := KZ.out.cell 2
        clear y0 y1 y2 KB RB BW HC bw
        have p0 : wz.cell? ⟨w.heap.size + 1, 0, none⟩ = some (.int .i64 0) := RZ.out.cell 0
        have q_0 := RZ.out.free 0
        have p1 : wz.cell? ⟨w.heap.size + 1, 1, none⟩ = some (.int .i64 0) := RZ.out.cell 1
        have q_1 := RZ.out.free 1
        have p2 : wz.cell? ⟨w.heap.size + 1, 2, none⟩ = some (.int .i64 0) := RZ.out.cell 2
        have q_2 := RZ.out.free 2
        have p3 : wz.cell? ⟨w.heap.size + 1, 3, none⟩ = some (.string ⟨#[]⟩) := RZ.out.cell 3
        have q_3 := RZ.out.free 3
        have p4 : wz.cell? ⟨w.heap.size + 1, 4, none⟩ = some (.slice none 0 0) := RZ.out.cell 4
        have q_4 := RZ.out.free 4
        have p5 : wz.cell? ⟨w.heap.size + 1, 5, none⟩ = some (.slice none 0 0) := RZ.out.cell 5
        have q_5 := RZ.out.free 5
        rcases (by omega : 18 < T ∨ (T ≤ 18 ∧ 0 < h) ∨ (T ≤ 18 ∧ h = 0)) with hA | ⟨hA, hB⟩ | ⟨hA, hB⟩
        · have q1 : (18 : Int) < (T : Int) := by omega
          have HN : Hid (LP = none) := by
            show _ = _
            rw [HF.out, HX.out, if_neg (by first | (simp [fits, sg]; done) | (simp [fits, sg]; omega))]
          clear HF HX
          go_wp2_with fail
          exact ret6 Tryd.results33 rfl rfl RZ.out (Nat.le_succ _) BZ.out (by rw [HN.out]; first | (simp [ansv, numv, sg, str]; done) | (simp [ansv, numv, sg, str]; exact (wneg1 hP hC).symm) | (simp [ansv, numv, sg, str]; assumption) | (simp [ansv, numv, sg, str]; omega))
        · have q1 : ¬ ((18 : Int) < (T : Int)) := by omega
          have q2 : ¬ ((h : Int) = 0) := by omega
          have HN : Hid (LP = none) := by
            show _ = _
            rw [HF.out, HX.out, if_neg (by first | (simp [fits, sg]; done) | (simp [fits, sg]; omega))]
          clear HF HX
          go_wp2_with fail
          exact ret6 Tryd.results33 rfl rfl RZ.out (Nat.le_succ _) BZ.out (by rw [HN.out]; first | (simp [ansv, numv, sg, str]; done) | (simp [ansv, numv, sg, str]; exact (wneg1 hP hC).symm) | (simp [ansv, numv, sg, str]; assumption) | (simp [ansv, numv, sg, str]; omega))
        · subst hB
          have q1 : ¬ ((18 : Int) < (T : Int)) := by omega
          have q3 : ¬ ((T : Int) = 0) := by omega
          rcases (by omega : (9223372036854775808 < l) ∨ (l = 9223372036854775808) ∨ (0 < l ∧ l < 9223372036854775808) ∨ l = 0) with hC | hC | ⟨hP, hC⟩ | hC
          · have q2 : (9223372036854775808 : Int) < (l : Int) := by omega
            have HN : Hid (LP = none) := by
              show _ = _
              rw [HF.out, HX.out, if_neg (by first | (simp [fits, sg]; done) | (simp [fits, sg]; omega))]
            clear HF HX
            go_wp2_with fail
            exact ret6 Tryd.results33 rfl rfl RZ.out (Nat.le_succ _) BZ.out (by rw [HN.out]; first | (simp [ansv, numv, sg, str]; done) | (simp [ansv, numv, sg, str]; exact (wneg1 hP hC).symm) | (simp [ansv, numv, sg, str]; assumption) | (simp [ansv, numv, sg, str]; omega))
          · subst hC
            have HN : Hid (LP = none) := by
              show _ = _
              rw [HF.out, HX.out, if_neg (by first | (simp [fits, sg]; done) | (simp [fits, sg]; omega))]
            clear HF HX
            go_wp2_with fail
            exact ret6 Tryd.results33 rfl rfl RZ.out (Nat.le_succ _) BZ.out (by rw [HN.out]; first | (simp [ansv, numv, sg, str]; done) | (simp [ansv, numv, sg, str]; exact (wneg1 hP hC).symm) | (simp [ansv, numv, sg, str]; assumption) | (simp [ansv, numv, sg, str]; omega))
          · have q2 : ¬ ((9223372036854775808 : Int) < (l : Int)) := by omega
            have q4 : ¬ ((l : Int) = 9223372036854775808) := by omega
            have q5 : ¬ ((l : Int) = 0) := by omega
            have HN : Hid (LP = some ⟨4, sg false l, T, [], []⟩) := by
              show _ = _
              rw [HF.out, HX.out, if_pos (by first | (simp [fits, sg]; done) | (simp [fits, sg]; omega))]
              simp [nodeOf, sg]; omega
            clear HF HX
            go_wp2_with fail
            exact ret6 Tryd.results33 rfl rfl RZ.out (Nat.le_succ _) BZ.out (by rw [HN.out]; first | (simp [ansv, numv, sg, str]; done) | (simp [ansv, numv, sg, str]; exact (wneg1 hP hC).symm) | (simp [ansv, numv, sg, str]; assumption) | (simp [ansv, numv, sg, str]; omega))
          · subst hC
            have HN : Hid (LP = some ⟨4, sg false 0, T, [], []⟩) := by
              show _ = _
              rw [HF.out, HX.out, if_pos (by first | (simp [fits, sg]; done) | (simp [fits, sg]; omega))]
              simp [nodeOf, sg]; omega
            clear HF HX
            go_wp2_with fail
            exact ret6 Tryd.results33 rfl rfl RZ.out (Nat.le_succ _) BZ.out (by rw [HN.out]; first | (simp [ansv, numv, sg, str]; done) | (simp [ansv, numv, sg, str]; exact (wneg1 hP hC).symm) | (simp [ansv, numv, sg, str]; assumption) | (simp [ansv, numv, sg, str]; omega))
set_option maxRecDepth 100000 in
set_option maxHeartbeats 6400000 in
theorem rleast_false_lo (b : Nat) (hb : b < 18446744073709551616) (h1 : 0 < b) (s : Nat) (hs : s ≤ 9223372036854775807) (w : World) :
    Calls Tryd.prog 33 #[.agg #[.int .u64 0, .int .u64 b, .bool false], .int .i64 s] w
      (Ret (ansv (leastP (sg false (0 * 18446744073709551616 + b)) s)) w) := by
  have b0 : Blk ((w.alloc (.cells #[.int .u64 0, .int .u64 b, .bool false] 60)).alloc (.cells #[.int .i64 0, .int .i64 0, .int .i64 0, .string ⟨#[]⟩, .slice none 0 0, .slice none 0 0] 25)) w.heap.size #[.int .u64 0, .int .u64 b, .bool false] 60 := (Blk.new w _ _).alloc _
  have b1 : Blk ((w.alloc (.cells #[.int .u64 0, .int .u64 b, .bool false] 60)).alloc (.cells #[.int .i64 0, .int .i64 0, .int .i64 0, .string ⟨#[]⟩, .slice none 0 0, .slice none 0 0] 25)) (w.heap.size + 1) #[.int .i64 0, .int .i64 0, .int .i64 0, .string ⟨#[]⟩, .slice none 0 0, .slice none 0 0] 25 := by
    have := Blk.new (w.alloc (.cells #[.int .u64 0, .int .u64 b, .bool false] 60)) #[.int .i64 0, .int .i64 0, .int .i64 0, .string ⟨#[]⟩, .slice none 0 0, .slice none 0 0] 25
    simpa using this
  have b2 : Below w.heap.size w ((w.alloc (.cells #[.int .u64 0, .int .u64 b, .bool false] 60)).alloc (.cells #[.int .i64 0, .int .i64 0, .int .i64 0, .string ⟨#[]⟩, .slice none 0 0, .slice none 0 0] 25)) := ((Below.refl _ _).alloc (Nat.le_refl _) _).alloc (by simp) _
  have b3 : w.heap.size + 2 ≤ ((w.alloc (.cells #[.int .u64 0, .int .u64 b, .bool false] 60)).alloc (.cells #[.int .i64 0, .int .i64 0, .int .i64 0, .string ⟨#[]⟩, .slice none 0 0, .slice none 0 0] 25)).heap.size := by simp
  generalize hW : (w.alloc (.cells #[.int .u64 0, .int .u64 b, .bool false] 60)).alloc (.cells #[.int .i64 0, .int .i64 0, .int .i64 0, .string ⟨#[]⟩, .slice none 0 0, .slice none 0 0] 25) = Wb at *
  have x0 : Wb.cell? ⟨w.heap.size, 0, none⟩ = some (.int .u64 0) := b0.cell 0
  have x1 : Wb.cell? ⟨w.heap.size, 1, none⟩ = some (.int .u64 b) := b0.cell 1
  have B0 := Lib.hid b0; have B1 := Lib.hid b1; have B2 := Lib.hid b2; have B3 := Lib.hid b3
  clear b0 b1 b2 b3
  generalize hR : red s (sg false (0 * 18446744073709551616 + b)) = R
  have HR := Lib.hid hR
  have HF : Hid (leastP (sg false (0 * 18446744073709551616 + b)) s = if fits R.1 R.2 then some (nodeOf R.1 R.2) else none) := by show _ = _; unfold leastP; rw [hR]
  generalize leastP (sg false (0 * 18446744073709551616 + b)) s = LP at *
  clear hR
  have e1 : ((b : Int) == 0) = false := by simp; omega
  go_enter Tryd.func33, Tryd.ntmps33
  go_wp2_with fail
  clear hW x0 x1 e1
  go_loopw [1] (fun s1 wr => ∃ h l t : Nat, s1 = .int .i64 t ∧ h < 18446744073709551616 ∧ l < 18446744073709551616 ∧ t ≤ s ∧ Hid (red t (sg false (h * 18446744073709551616 + l)) = R) ∧
    Hid (Blk wr w.heap.size #[.int .u64 h, .int .u64 l, .bool false] 60) ∧ Hid (Blk wr (w.heap.size + 1) #[.int .i64 0, .int .i64 0, .int .i64 0, .string ⟨#[]⟩, .slice none 0 0, .slice none 0 0] 25) ∧ Hid (Below w.heap.size w wr) ∧ Hid (w.heap.size + 2 ≤ wr.heap.size)) (fun s1 _ => (intOf s1).toNat)
  case atStart => exact ⟨0, b, s, rfl, by decide, hb, Nat.le_refl _, HR, B0, B1, B2, B3⟩
  case round =>
    obtain ⟨h, l, T, rfl, hh, hl, hts, HX0, KB, RB, BW, SZ⟩ := hrel
    have y0 : wr.cell? ⟨w.heap.size, 0, none⟩ = some (.int .u64 h) := KB.out.cell 0
    have y1 : wr.cell? ⟨w.heap.size, 1, none⟩ = some (.int .u64 l) := KB.out.cell 1
    have y2 : wr.cell? ⟨w.heap.size, 2, none⟩ = some (.bool false) := KB.out.cell 2
    rcases Nat.eq_zero_or_pos T with h0 | h0
    · subst h0
      have HX : Hid (R = (sg false (h * 18446744073709551616 + l), 0)) := by show _ = _; rw [← HX0.out]; rfl
      clear HX0
      go_upto_region 8 with fail
      have p0 : wr.cell? ⟨w.heap.size + 1, 0, none⟩ = some (.int .i64 0) := RB.out.cell 0
      have q_0 := RB.out.free 0
      have p1 : wr.cell? ⟨w.heap.size + 1, 1, none⟩ = some (.int .i64 0) := RB.out.cell 1
      have q_1 := RB.out.free 1
      have p2 : wr.cell? ⟨w.heap.size + 1, 2, none⟩ = some (.int .i64 0) := RB.out.cell 2
      have q_2 := RB.out.free 2
      have p3 : wr.cell? ⟨w.heap.size + 1, 3, none⟩ = some (.string ⟨#[]⟩) := RB.out.cell 3
      have q_3 := RB.out.free 3
      have p4 : wr.cell? ⟨w.heap.size + 1, 4, none⟩ = some (.slice none 0 0) := RB.out.cell 4
      have q_4 := RB.out.free 4
      have p5 : wr.cell? ⟨w.heap.size + 1, 5, none⟩ = some (.slice none 0 0) := RB.out.cell 5
      have q_5 := RB.out.free 5
      rcases Nat.eq_zero_or_pos h with hB | hB
      · subst hB
        rcases (by omega : (9223372036854775808 < l) ∨ (l = 9223372036854775808) ∨ (0 < l ∧ l < 9223372036854775808) ∨ l = 0) with hC | hC | ⟨hP, hC⟩ | hC
        · have q2 : (9223372036854775808 : Int) < (l : Int) := by omega
          have HN : Hid (LP = none) := by
            show _ = _
            rw [HF.out, HX.out, if_neg (by first | (simp [fits, sg]; done) | (simp [fits, sg]; omega))]
          clear HF HX
          go_wp2_with fail
          exact ret6 Tryd.results33 rfl rfl RB.out (Nat.le_succ _) BW.out (by rw [HN.out]; first | (simp [ansv, numv, sg, str]; done) | (simp [ansv, numv, sg, str]; exact (wneg1 hP hC).symm) | (simp [ansv, numv, sg, str]; assumption) | (simp [ansv, numv, sg, str]; omega))
        · subst hC
          have HN : Hid (LP = none) := by
            show _ = _
            rw [HF.out, HX.out, if_neg (by first | (simp [fits, sg]; done) | (simp [fits, sg]; omega))]
          clear HF HX
          go_wp2_with fail
          exact ret6 Tryd.results33 rfl rfl RB.out (Nat.le_succ _) BW.out (by rw [HN.out]; first | (simp [ansv, numv, sg, str]; done) | (simp [ansv, numv, sg, str]; exact (wneg1 hP hC).symm) | (simp [ansv, numv, sg, str]; assumption) | (simp [ansv, numv, sg, str]; omega))
        · have q2 : ¬ ((9223372036854775808 : Int) < (l : Int)) := by omega
          have q4 : ¬ ((l : Int) = 9223372036854775808) := by omega
          have q5 : ¬ ((l : Int) = 0) := by omega
          have HN : Hid (LP = some ⟨3, sg false l, 0, [], []⟩) := by
            show _ = _
            rw [HF.out, HX.out, if_pos (by first | (simp [fits, sg]; done) | (simp [fits, sg]; omega))]
            simp [nodeOf, sg]
          clear HF HX
          go_wp2_with fail
          exact ret6 Tryd.results33 rfl rfl RB.out (Nat.le_succ _) BW.out (by rw [HN.out]; first | (simp [ansv, numv, sg, str]; done) | (simp [ansv, numv, sg, str]; exact (wneg1 hP hC).symm) | (simp [ansv, numv, sg, str]; assumption) | (simp [ansv, numv, sg, str]; omega))
        · subst hC
          have HN : Hid (LP = some ⟨3, sg false 0, 0, [], []⟩) := by
            show _ = _
            rw [HF.out, HX.out, if_pos (by first | (simp [fits, sg]; done) | (simp [fits, sg]; omega))]
            simp [nodeOf, sg]
          clear HF HX
          go_wp2_with fail
          exact ret6 Tryd.results33 rfl rfl RB.out (Nat.le_succ _) BW.out (by rw [HN.out]; first | (simp [ansv, numv, sg, str]; done) | (simp [ansv, numv, sg, str]; exact (wneg1 hP hC).symm) | (simp [ansv, numv, sg, str]; assumption) | (simp [ansv, numv, sg, str]; omega))
      · have q2 : ¬ ((h : Int) = 0) := by omega
        have HN : Hid (LP = none) := by
          show _ = _
          rw [HF.out, HX.out, if_neg (by first | (simp [fits, sg]; done) | (simp [fits, sg]; omega))]
        clear HF HX
        go_wp2_with fail
        exact ret6 Tryd.results33 rfl rfl RB.out (Nat.le_succ _) BW.out (by rw [HN.out]; first | (simp [ansv, numv, sg, str]; done) | (simp [ansv, numv, sg, str]; exact (wneg1 hP hC).symm) | (simp [ansv, numv, sg, str]; assumption) | (simp [ansv, numv, sg, str]; omega))
    · have g0 : (0 : Int) < (T : Int) := by omega
      obtain ⟨Q, HQ⟩ : ∃ Q : Nat, Hid (Q = (h % 10 * 18446744073709551616 + l) / 10) := ⟨_, rfl⟩
      obtain ⟨r, Hr⟩ : ∃ r : Nat, Hid (r = (h % 10 * 18446744073709551616 + l) % 10) := ⟨_, rfl⟩
      obtain ⟨H, HH⟩ : ∃ H : Nat, Hid (H = h / 10) := ⟨_, rfl⟩
      have HC : Hid (∀ w : World, Calls Tryd.prog 54 #[.agg #[.int .u64 h, .int .u64 l, .bool false]] w (Ret (.tuple #[.agg #[.int .u64 H, .int .u64 Q, .bool false], .int .u64 (r : Int)]) w)) := fun w => by
        rw [HQ.out, Hr.out, HH.out]
        exact ten_any h l false hh hl w
      have hlen : Hid (T = (T - 1) + 1) := by show _ = _; omega
      rcases Nat.eq_zero_or_pos r with r0 | r0
      · subst r0
        have hm : Hid ((h * 18446744073709551616 + l) % 10 = 0) := by have := Hr.out; show _ = _; omega
        have HX : Hid (red (T - 1) (sg false (H * 18446744073709551616 + Q)) = R) := by
          show _ = _
          rw [← HX0.out, hlen.out, red_step hm.out, Nat.add_sub_cancel, HQ.out, HH.out]
          congr 2
          omega
        have hQ : Q < 18446744073709551616 := by have := HQ.out; omega
        have hH : H < 18446744073709551616 := by have := HH.out; omega
        clear HX0 hm hlen
        go_wp2_with (go_at_call 54; refine (HC.out _).mono ?_; rintro e w2 ⟨rfl, bw⟩
                     have KZ : Blk w2 w.heap.size #[.int .u64 h, .int .u64 l, .bool false] 60 := KB.out.below bw (by have := SZ.out; omega)
                     have z0 : w2.cell? ⟨w.heap.size, 0, none⟩ = some (.int .u64 h) := KZ.cell 0
                     have z1 : w2.cell? ⟨w.heap.size, 1, none⟩ = some (.int .u64 l) := KZ.cell 1
                     have z2 : w2.cell? ⟨w.heap.size, 2, none⟩ = some (.bool false) := KZ.cell 2
                     have f0 := KZ.free 0
                     have f1 := KZ.free 1
                     have f2 := KZ.free 2
                     have KZ := Lib.hid KZ
                     have hlt : w.heap.size < w2.heap.size := by have := SZ.out; have := bw.size; omega)
        go_roundw
        case rel => exact ⟨H, Q, T - 1, by congr 1; omega, hH, hQ, by omega, HX, (show Hid (Blk _ _ _ _) from (Blk.three_set KZ.out).alloc _),
          (show Hid (Blk _ _ _ _) from ((((RB.out.below bw (by have := SZ.out; omega)).set_other 0 _ (by omega)).set_other 1 _ (by omega)).set_other 2 _ (by omega)).alloc _),
          (show Hid (Below _ _ _) from ((((BW.out.trans (bw.mono (by have := SZ.out; omega))).setCell (Nat.le_refl _) _).setCell (Nat.le_refl _) _).setCell (Nat.le_refl _) _).alloc (by simp; have := SZ.out; have := bw.size; omega) _),
          (show Hid (_ ≤ _) from by show _ ≤ _; simp; omega)⟩
        case measure => simp [intOf]; omega
      · have hm : Hid (¬ (h * 18446744073709551616 + l) % 10 = 0) := by have := Hr.out; show ¬ _; omega
        have HX : Hid (R = (sg false (h * 18446744073709551616 + l), T)) := by show _ = _; rw [← HX0.out, hlen.out]; exact red_stop hm.out
        have g1 : ¬ ((r : Int) = 0) := by omega
        clear HX0 hm hlen
        go_upto_region 8 with (go_at_call 54; refine (HC.out _).mono ?_; rintro e w2 ⟨rfl, bw⟩)
        have KZ : Hid (Blk (w2.alloc (.cells #[.int .u64 H, .int .u64 Q, .bool false] 60)) w.heap.size #[.int .u64 h, .int .u64 l, .bool false] 60) := (KB.out.below bw (by have := SZ.out; omega)).alloc _
        have RZ : Hid (Blk (w2.alloc (.cells #[.int .u64 H, .int .u64 Q, .bool false] 60)) (w.heap.size + 1) #[.int .i64 0, .int .i64 0, .int .i64 0, .string ⟨#[]⟩, .slice none 0 0, .slice none 0 0] 25) := (RB.out.below bw (by have := SZ.out; omega)).alloc _
        have BZ : Hid (Below w.heap.size w (w2.alloc (.cells #[.int .u64 H, .int .u64 Q, .bool false] 60))) := (BW.out.trans (bw.mono (by have := SZ.out; omega))).alloc (by have := SZ.out; have := bw.size; omega) _
        generalize (w2.alloc (.cells #[.int .u64 H, .int .u64 Q, .bool false] 60)) = wz at *
        have z0 : wz.cell? ⟨w.heap.size, 0, none⟩ = some (.int .u64 h) := KZ.out.cell 0
        have z1 : wz.cell? ⟨w.heap.size, 1, none⟩ = some (.int .u64 l) := KZ.out.cell 1
        have z2 : wz.cell? ⟨w.heap.size, 2, none⟩ = some (.bool false) := KZ.out.cell 2
        clear y0 y1 y2 KB RB BW HC bw
        have p0 : wz.cell? ⟨w.heap.size + 1, 0, none⟩ = some (.int .i64 0) := RZ.out.cell 0
        have q_0 := RZ.out.free 0
        have p1 : wz.cell? ⟨w.heap.size + 1, 1, none⟩ = some (.int .i64 0) := RZ.out.cell 1
        have q_1 := RZ.out.free 1
        have p2 : wz.cell? ⟨w.heap.size + 1, 2, none⟩ = some (.int .i64 0) := RZ.out.cell 2
        have q_2 := RZ.out.free 2
        have p3 : wz.cell? ⟨w.heap.size + 1, 3, none⟩ = some (.string ⟨#[]⟩) := RZ.out.cell 3
        have q_3 := RZ.out.free 3
        have p4 : wz.cell? ⟨w.heap.size + 1, 4, none⟩ = some (.slice none 0 0) := RZ.out.cell 4
        have q_4 := RZ.out.free 4
        have p5 : wz.cell? ⟨w.heap.size + 1, 5, none⟩ = some (.slice none 0 0) := RZ.out.cell 5
        have q_5 := RZ.out.free 5
        rcases (by omega : 18 < T ∨ (T ≤ 18 ∧ 0 < h) ∨ (T ≤ 18 ∧ h = 0)) with hA | ⟨hA, hB⟩ | ⟨hA, hB⟩
        · have q1 : (18 : Int) < (T : Int) := by omega
          have HN : Hid (LP = none) := by
            show _ = _
            rw [HF.out, HX.out, if_neg (by first | (simp [fits, sg]; done) | (simp [fits, sg]; omega))]
          clear HF HX
          go_wp2_with fail
          exact ret6 Tryd.results33 rfl rfl RZ.out (Nat.le_succ _) BZ.out (by rw [HN.out]; first | (simp [ansv, numv, sg, str]; done) | (simp [ansv, numv, sg, str]; exact (wneg1 hP hC).symm) | (simp [ansv, numv, sg, str]; assumption) | (simp [ansv, numv, sg, str]; omega))
        · have q1 : ¬ ((18 : Int) < (T : Int)) := by omega
          have q2 : ¬ ((h : Int) = 0) := by omega
          have HN : Hid (LP = none) := by
            show _ = _
            rw [HF.out, HX.out, if_neg (by first | (simp [fits, sg]; done) | (simp [fits, sg]; omega))]
          clear HF HX
          go_wp2_with fail
          exact ret6 Tryd.results33 rfl rfl RZ.out (Nat.le_succ _) BZ.out (by rw [HN.out]; first | (simp [ansv, numv, sg, str]; done) | (simp [ansv, numv, sg, str]; exact (wneg1 hP hC).symm) | (simp [ansv, numv, sg, str]; assumption) | (simp [ansv, numv, sg, str]; omega))
        · subst hB
          have q1 : ¬ ((18 : Int) < (T : Int)) := by omega
          have q3 : ¬ ((T : Int) = 0) := by omega
          rcases (by omega : (9223372036854775808 < l) ∨ (l = 9223372036854775808) ∨ (0 < l ∧ l < 9223372036854775808) ∨ l = 0) with hC | hC | ⟨hP, hC⟩ | hC
          · have q2 : (9223372036854775808 : Int) < (l : Int) := by omega
            have HN : Hid (LP = none) := by
              show _ = _
              rw [HF.out, HX.out, if_neg (by first | (simp [fits, sg]; done) | (simp [fits, sg]; omega))]
            clear HF HX
            go_wp2_with fail
            exact ret6 Tryd.results33 rfl rfl RZ.out (Nat.le_succ _) BZ.out (by rw [HN.out]; first | (simp [ansv, numv, sg, str]; done) | (simp [ansv, numv, sg, str]; exact (wneg1 hP hC).symm) | (simp [ansv, numv, sg, str]; assumption) | (simp [ansv, numv, sg, str]; omega))
          · subst hC
            have HN : Hid (LP = none) := by
              show _ = _
              rw [HF.out, HX.out, if_neg (by first | (simp [fits, sg]; done) | (simp [fits, sg]; omega))]
            clear HF HX
            go_wp2_with fail
            exact ret6 Tryd.results33 rfl rfl RZ.out (Nat.le_succ _) BZ.out (by rw [HN.out]; first | (simp [ansv, numv, sg, str]; done) | (simp [ansv, numv, sg, str]; exact (wneg1 hP hC).symm) | (simp [ansv, numv, sg, str]; assumption) | (simp [ansv, numv, sg, str]; omega))
          · have q2 : ¬ ((9223372036854775808 : Int) < (l : Int)) := by omega
            have q4 : ¬ ((l : Int) = 9223372036854775808) := by omega
            have q5 : ¬ ((l : Int) = 0) := by omega
            have HN : Hid (LP = some ⟨4, sg false l, T, [], []⟩) := by
              show _ = _
              rw [HF.out, HX.out, if_pos (by first | (simp [fits, sg]; done) | (simp [fits, sg]; omega))]
              simp [nodeOf, sg]; omega
            clear HF HX
            go_wp2_with fail
            exact ret6 Tryd.results33 rfl rfl RZ.out (Nat.le_succ _) BZ.out (by rw [HN.out]; first | (simp [ansv, numv, sg, str]; done) | (simp [ansv, numv, sg, str]; exact (wneg1 hP hC).symm) | (simp [ansv, numv, sg, str]; assumption) | (simp [ansv, numv, sg, str]; omega))
          · subst hC
            have HN : Hid (LP = some ⟨4, sg false 0, T, [], []⟩) := by
              show _ = _
              rw [HF.out, HX.out, if_pos (by first | (simp [fits, sg]; done) | (simp [fits, sg]; omega))]
              simp [nodeOf, sg]; omega
            clear HF HX
            go_wp2_with fail
            exact ret6 Tryd.results33 rfl rfl RZ.out (Nat.le_succ _) BZ.out (by rw [HN.out]; first | (simp [ansv, numv, sg, str]; done) | (simp [ansv, numv, sg, str]; exact (wneg1 hP hC).symm) | (simp [ansv, numv, sg, str]; assumption) | (simp [ansv, numv, sg, str]; omega))
set_option maxRecDepth 100000 in
set_option maxHeartbeats 6400000 in
theorem rleast_false_zero  (s : Nat) (hs : s ≤ 9223372036854775807) (w : World) :
    Calls Tryd.prog 33 #[.agg #[.int .u64 0, .int .u64 0, .bool false], .int .i64 s] w
      (Ret (ansv (leastP (sg false (0 * 18446744073709551616 + 0)) s)) w) := by
  have b0 : Blk ((w.alloc (.cells #[.int .u64 0, .int .u64 0, .bool false] 60)).alloc (.cells #[.int .i64 0, .int .i64 0, .int .i64 0, .string ⟨#[]⟩, .slice none 0 0, .slice none 0 0] 25)) w.heap.size #[.int .u64 0, .int .u64 0, .bool false] 60 := (Blk.new w _ _).alloc _
  have b1 : Blk ((w.alloc (.cells #[.int .u64 0, .int .u64 0, .bool false] 60)).alloc (.cells #[.int .i64 0, .int .i64 0, .int .i64 0, .string ⟨#[]⟩, .slice none 0 0, .slice none 0 0] 25)) (w.heap.size + 1) #[.int .i64 0, .int .i64 0, .int .i64 0, .string ⟨#[]⟩, .slice none 0 0, .slice none 0 0] 25 := by
    have := Blk.new (w.alloc (.cells #[.int .u64 0, .int .u64 0, .bool false] 60)) #[.int .i64 0, .int .i64 0, .int .i64 0, .string ⟨#[]⟩, .slice none 0 0, .slice none 0 0] 25
    simpa using this
  have b2 : Below w.heap.size w ((w.alloc (.cells #[.int .u64 0, .int .u64 0, .bool false] 60)).alloc (.cells #[.int .i64 0, .int .i64 0, .int .i64 0, .string ⟨#[]⟩, .slice none 0 0, .slice none 0 0] 25)) := ((Below.refl _ _).alloc (Nat.le_refl _) _).alloc (by simp) _
  have b3 : w.heap.size + 2 ≤ ((w.alloc (.cells #[.int .u64 0, .int .u64 0, .bool false] 60)).alloc (.cells #[.int .i64 0, .int .i64 0, .int .i64 0, .string ⟨#[]⟩, .slice none 0 0, .slice none 0 0] 25)).heap.size := by simp
  generalize hW : (w.alloc (.cells #[.int .u64 0, .int .u64 0, .bool false] 60)).alloc (.cells #[.int .i64 0, .int .i64 0, .int .i64 0, .string ⟨#[]⟩, .slice none 0 0, .slice none 0 0] 25) = Wb at *
  have x0 : Wb.cell? ⟨w.heap.size, 0, none⟩ = some (.int .u64 0) := b0.cell 0
  have x1 : Wb.cell? ⟨w.heap.size, 1, none⟩ = some (.int .u64 0) := b0.cell 1
  have B0 := Lib.hid b0; have B1 := Lib.hid b1; have B2 := Lib.hid b2; have B3 := Lib.hid b3
  clear b0 b1 b2 b3
  generalize hR : red s (sg false (0 * 18446744073709551616 + 0)) = R
  have HR := Lib.hid hR
  have HF : Hid (leastP (sg false (0 * 18446744073709551616 + 0)) s = if fits R.1 R.2 then some (nodeOf R.1 R.2) else none) := by show _ = _; unfold leastP; rw [hR]
  generalize leastP (sg false (0 * 18446744073709551616 + 0)) s = LP at *
  clear hR
  go_enter Tryd.func33, Tryd.ntmps33
  have HX : Hid (R = (sg false (0 * 18446744073709551616 + 0), 0)) := by show _ = _; rw [← HR.out]; exact (red_nought false s).trans (red_nought false 0).symm
  go_wp2_with fail
  clear hW x0 x1
  refine wp_loop_once ?_
  have KB := B0; have RB := B1; have BW := B2
  have y0 : Wb.cell? ⟨w.heap.size, 0, none⟩ = some (.int .u64 0) := KB.out.cell 0
  have y1 : Wb.cell? ⟨w.heap.size, 1, none⟩ = some (.int .u64 0) := KB.out.cell 1
  have y2 : Wb.cell? ⟨w.heap.size, 2, none⟩ = some (.bool false) := KB.out.cell 2
  have p0 : Wb.cell? ⟨w.heap.size + 1, 0, none⟩ = some (.int .i64 0) := RB.out.cell 0
  have q_0 := RB.out.free 0
  have p1 : Wb.cell? ⟨w.heap.size + 1, 1, none⟩ = some (.int .i64 0) := RB.out.cell 1
  have q_1 := RB.out.free 1
  have p2 : Wb.cell? ⟨w.heap.size + 1, 2, none⟩ = some (.int .i64 0) := RB.out.cell 2
  have q_2 := RB.out.free 2
  have p3 : Wb.cell? ⟨w.heap.size + 1, 3, none⟩ = some (.string ⟨#[]⟩) := RB.out.cell 3
  have q_3 := RB.out.free 3
  have p4 : Wb.cell? ⟨w.heap.size + 1, 4, none⟩ = some (.slice none 0 0) := RB.out.cell 4
  have q_4 := RB.out.free 4
  have p5 : Wb.cell? ⟨w.heap.size + 1, 5, none⟩ = some (.slice none 0 0) := RB.out.cell 5
  have q_5 := RB.out.free 5
  have HN : Hid (LP = some ⟨3, sg false 0, 0, [], []⟩) := by
    show _ = _
    rw [HF.out, HX.out, if_pos (by first | (simp [fits, sg]; done) | (simp [fits, sg]; omega))]
    simp [nodeOf, sg]
  clear HF HX
  go_wp2_with fail
  exact ret6 Tryd.results33 rfl rfl RB.out (Nat.le_succ _) BW.out (by rw [HN.out]; first | (simp [ansv, numv, sg, str]; done) | (simp [ansv, numv, sg, str]; exact (wneg1 hP hC).symm) | (simp [ansv, numv, sg, str]; assumption) | (simp [ansv, numv, sg, str]; omega))
theorem rleast_false (a b : Nat) (ha : a < 18446744073709551616) (hb : b < 18446744073709551616) (s : Nat) (hs : s ≤ 9223372036854775807) (w : World) :
    Calls Tryd.prog 33 #[.agg #[.int .u64 a, .int .u64 b, .bool false], .int .i64 s] w
      (Ret (ansv (leastP (sg false (a * 18446744073709551616 + b)) s)) w) := by
  rcases Nat.eq_zero_or_pos a with h | h
  · rcases Nat.eq_zero_or_pos b with h' | h'
    · subst h h'; exact rleast_false_zero s hs w
    · subst h; exact rleast_false_lo b hb h' s hs w
  · exact rleast_false_hi a b ha hb h s hs w
set_option maxRecDepth 100000 in
set_option maxHeartbeats 6400000 in
theorem rleast_true_hi (a b : Nat) (ha : a < 18446744073709551616) (hb : b < 18446744073709551616) (h1 : 0 < a) (s : Nat) (hs : s ≤ 9223372036854775807) (w : World) :
    Calls Tryd.prog 33 #[.agg #[.int .u64 a, .int .u64 b, .bool true], .int .i64 s] w
      (Ret (ansv (leastP (sg true (a * 18446744073709551616 + b)) s)) w) := by
  have b0 : Blk ((w.alloc (.cells #[.int .u64 a, .int .u64 b, .bool true] 60)).alloc (.cells #[.int .i64 0, .int .i64 0, .int .i64 0, .string ⟨#[]⟩, .slice none 0 0, .slice none 0 0] 25)) w.heap.size #[.int .u64 a, .int .u64 b, .bool true] 60 := (Blk.new w _ _).alloc _
  have b1 : Blk ((w.alloc (.cells #[.int .u64 a, .int .u64 b, .bool true] 60)).alloc (.cells #[.int .i64 0, .int .i64 0, .int .i64 0, .string ⟨#[]⟩, .slice none 0 0, .slice none 0 0] 25)) (w.heap.size + 1) #[.int .i64 0, .int .i64 0, .int .i64 0, .string ⟨#[]⟩, .slice none 0 0, .slice none 0 0] 25 := by
    have := Blk.new (w.alloc (.cells #[.int .u64 a, .int .u64 b, .bool true] 60)) #[.int .i64 0, .int .i64 0, .int .i64 0, .string ⟨#[]⟩, .slice none 0 0, .slice none 0 0] 25
    simpa using this
  have b2 : Below w.heap.size w ((w.alloc (.cells #[.int .u64 a, .int .u64 b, .bool true] 60)).alloc (.cells #[.int .i64 0, .int .i64 0, .int .i64 0, .string ⟨#[]⟩, .slice none 0 0, .slice none 0 0] 25)) := ((Below.refl _ _).alloc (Nat.le_refl _) _).alloc (by simp) _
  have b3 : w.heap.size + 2 ≤ ((w.alloc (.cells #[.int .u64 a, .int .u64 b, .bool true] 60)).alloc (.cells #[.int .i64 0, .int .i64 0, .int .i64 0, .string ⟨#[]⟩, .slice none 0 0, .slice none 0 0] 25)).heap.size := by simp
  generalize hW : (w.alloc (.cells #[.int .u64 a, .int .u64 b, .bool true] 60)).alloc (.cells #[.int .i64 0, .int .i64 0, .int .i64 0, .string ⟨#[]⟩, .slice none 0 0, .slice none 0 0] 25) = Wb at *
  have x0 : Wb.cell? ⟨w.heap.size, 0, none⟩ = some (.int .u64 a) := b0.cell 0
  have x1 : Wb.cell? ⟨w.heap.size, 1, none⟩ = some (.int .u64 b) := b0.cell 1
  have B0 := Lib.hid b0; have B1 := Lib.hid b1; have B2 := Lib.hid b2; have B3 := Lib.hid b3
  clear b0 b1 b2 b3
  generalize hR : red s (sg true (a * 18446744073709551616 + b)) = R
  have HR := Lib.hid hR
  have HF : Hid (leastP (sg true (a * 18446744073709551616 + b)) s = if fits R.1 R.2 then some (nodeOf R.1 R.2) else none) := by show _ = _; unfold leastP; rw [hR]
  generalize leastP (sg true (a * 18446744073709551616 + b)) s = LP at *
  clear hR
  have e1 : ((a : Int) == 0) = false := by simp; omega
  go_enter Tryd.func33, Tryd.ntmps33
  go_wp2_with fail
  clear hW x0 x1 e1
  go_loopw [1] (fun s1 wr => ∃ h l t : Nat, s1 = .int .i64 t ∧ h < 18446744073709551616 ∧ l < 18446744073709551616 ∧ t ≤ s ∧ Hid (red t (sg true (h * 18446744073709551616 + l)) = R) ∧
    Hid (Blk wr w.heap.size #[.int .u64 h, .int .u64 l, .bool true] 60) ∧ Hid (Blk wr (w.heap.size + 1) #[.int .i64 0, .int .i64 0, .int .i64 0, .string ⟨#[]⟩, .slice none 0 0, .slice none 0 0] 25) ∧ Hid (Below w.heap.size w wr) ∧ Hid (w.heap.size + 2 ≤ wr.heap.size)) (fun s1 _ => (intOf s1).toNat)
  case atStart => exact ⟨a, b, s, rfl, ha, hb, Nat.le_refl _, HR, B0, B1, B2, B3⟩
  case round =>
    obtain ⟨h, l, T, rfl, hh, hl, hts, HX0, KB, RB, BW, SZ⟩ := hrel
    have y0 : wr.cell? ⟨w.heap.size, 0, none⟩ = some (.int .u64 h) := KB.out.cell 0
    have y1 : wr.cell? ⟨w.heap.size, 1, none⟩ = some (.int .u64 l) := KB.out.cell 1
    have y2 : wr.cell? ⟨w.heap.size, 2, none⟩ = some (.bool true) := KB.out.cell 2
    rcases Nat.eq_zero_or_pos T with h0 | h0
    · subst h0
      have HX : Hid (R = (sg true (h * 18446744073709551616 + l), 0)) := by show _ = _; rw [← HX0.out]; rfl
      clear HX0
      go_upto_region 8 with fail
      have p0 : wr.cell? ⟨w.heap.size + 1, 0, none⟩ = some (.int .i64 0) := RB.out.cell 0
      have q_0 := RB.out.free 0
      have p1 : wr.cell? ⟨w.heap.size + 1, 1, none⟩ = some (.int .i64 0) := RB.out.cell 1
      have q_1 := RB.out.free 1
      have p2 : wr.cell? ⟨w.heap.size + 1, 2, none⟩ = some (.int .i64 0) := RB.out.cell 2
      have q_2 := RB.out.free 2
      have p3 : wr.cell? ⟨w.heap.size + 1, 3, none⟩ = some (.string ⟨#[]⟩) := RB.out.cell 3
      have q_3 := RB.out.free 3
      have p4 : wr.cell? ⟨w.heap.size + 1, 4, none⟩ = some (.slice none 0 0) := RB.out.cell 4
      have q_4 := RB.out.free 4
      have p5 : wr.cell? ⟨w.heap.size + 1, 5, none⟩ = some (.slice none 0 0) := RB.out.cell 5
      have q_5 := RB.out.free 5
      rcases Nat.eq_zero_or_pos h with hB | hB
      · subst hB
        rcases (by omega : (9223372036854775808 < l) ∨ (0 < l ∧ l ≤ 9223372036854775808) ∨ l = 0) with hC | ⟨hP, hC⟩ | hC
        · have q2 : (9223372036854775808 : Int) < (l : Int) := by omega
          have HN : Hid (LP = none) := by
            show _ = _
            rw [HF.out, HX.out, if_neg (by first | (simp [fits, sg]; done) | (simp [fits, sg]; omega))]
          clear HF HX
          go_wp2_with fail
          exact ret6 Tryd.results33 rfl rfl RB.out (Nat.le_succ _) BW.out (by rw [HN.out]; first | (simp [ansv, numv, sg, str]; done) | (simp [ansv, numv, sg, str]; exact (wneg1 hP hC).symm) | (simp [ansv, numv, sg, str]; assumption) | (simp [ansv, numv, sg, str]; omega))
        · rcases Nat.lt_or_eq_of_le hC with hC4 | hC4
          · have q4 : ¬ ((l : Int) = 9223372036854775808) := by omega
            have q2 : ¬ ((9223372036854775808 : Int) < (l : Int)) := by omega
            have q5 : ¬ ((l : Int) = 0) := by omega
            have HN : Hid (LP = some ⟨3, sg true l, 0, [], []⟩) := by
              show _ = _
              rw [HF.out, HX.out, if_pos (by first | (simp [fits, sg]; done) | (simp [fits, sg]; omega))]
              simp [nodeOf, sg]
            clear HF HX
            go_wp2_with fail
            exact ret6 Tryd.results33 rfl rfl RB.out (Nat.le_succ _) BW.out (by rw [HN.out]; first | (simp [ansv, numv, sg, str]; done) | (simp [ansv, numv, sg, str]; exact (wneg1 hP hC).symm) | (simp [ansv, numv, sg, str]; assumption) | (simp [ansv, numv, sg, str]; omega))
          · have q4 : (l : Int) = 9223372036854775808 := by omega
            have q2 : ¬ ((9223372036854775808 : Int) < (l : Int)) := by omega
            have q5 : ¬ ((l : Int) = 0) := by omega
            have HN : Hid (LP = some ⟨3, sg true l, 0, [], []⟩) := by
              show _ = _
              rw [HF.out, HX.out, if_pos (by first | (simp [fits, sg]; done) | (simp [fits, sg]; omega))]
              simp [nodeOf, sg]
            clear HF HX
            go_wp2_with fail
            exact ret6 Tryd.results33 rfl rfl RB.out (Nat.le_succ _) BW.out (by rw [HN.out]; first | (simp [ansv, numv, sg, str]; done) | (simp [ansv, numv, sg, str]; exact (wneg1 hP hC).symm) | (simp [ansv, numv, sg, str]; assumption) | (simp [ansv, numv, sg, str]; omega))
        · subst hC
          have HN : Hid (LP = some ⟨3, sg true 0, 0, [], []⟩) := by
            show _ = _
            rw [HF.out, HX.out, if_pos (by first | (simp [fits, sg]; done) | (simp [fits, sg]; omega))]
            simp [nodeOf, sg]
          clear HF HX
          go_wp2_with fail
          exact ret6 Tryd.results33 rfl rfl RB.out (Nat.le_succ _) BW.out (by rw [HN.out]; first | (simp [ansv, numv, sg, str]; done) | (simp [ansv, numv, sg, str]; exact (wneg1 hP hC).symm) | (simp [ansv, numv, sg, str]; assumption) | (simp [ansv, numv, sg, str]; omega))
      · have q2 : ¬ ((h : Int) = 0) := by omega
        have HN : Hid (LP = none) := by
          show _ = _
          rw [HF.out, HX.out, if_neg (by first | (simp [fits, sg]; done) | (simp [fits, sg]; omega))]
        clear HF HX
        go_wp2_with fail
        exact ret6 Tryd.results33 rfl rfl RB.out (Nat.le_succ _) BW.out (by rw [HN.out]; first | (simp [ansv, numv, sg, str]; done) | (simp [ansv, numv, sg, str]; exact (wneg1 hP hC).symm) | (simp [ansv, numv, sg, str]; assumption) | (simp [ansv, numv, sg, str]; omega))
    · have g0 : (0 : Int) < (T : Int) := by omega
      obtain ⟨Q, HQ⟩ : ∃ Q : Nat, Hid (Q = (h % 10 * 18446744073709551616 + l) / 10) := ⟨_, rfl⟩
      obtain ⟨r, Hr⟩ : ∃ r : Nat, Hid (r = (h % 10 * 18446744073709551616 + l) % 10) := ⟨_, rfl⟩
      obtain ⟨H, HH⟩ : ∃ H : Nat, Hid (H = h / 10) := ⟨_, rfl⟩
      have HC : Hid (∀ w : World, Calls Tryd.prog 54 #[.agg #[.int .u64 h, .int .u64 l, .bool true]] w (Ret (.tuple #[.agg #[.int .u64 H, .int .u64 Q, .bool true], .int .u64 (r : Int)]) w)) := fun w => by
        rw [HQ.out, Hr.out, HH.out]
        exact ten_any h l true hh hl w
      have hlen : Hid (T = (T - 1) + 1) := by show _ = _; omega
      rcases Nat.eq_zero_or_pos r with r0 | r0
      · subst r0
        have hm : Hid ((h * 18446744073709551616 + l) % 10 = 0) := by have := Hr.out; show _ = _; omega
        have HX : Hid (red (T - 1) (sg true (H * 18446744073709551616 + Q)) = R) := by
          show _ = _
          rw [← HX0.out, hlen.out, red_step hm.out, Nat.add_sub_cancel, HQ.out, HH.out]
          congr 2
          omega
        have hQ : Q < 18446744073709551616 := by have := HQ.out; omega
        have hH : H < 18446744073709551616 := by have := HH.out; omega
        clear HX0 hm hlen
        go_wp2_with (go_at_call 54; refine (HC.out _).mono ?_; rintro e w2 ⟨rfl, bw⟩
                     have KZ : Blk w2 w.heap.size #[.int .u64 h, .int .u64 l, .bool true] 60 := KB.out.below bw (by have := SZ.out; omega)
                     have z0 : w2.cell? ⟨w.heap.size, 0, none⟩ = some (.int .u64 h) := KZ.cell 0
                     have z1 : w2.cell? ⟨w.heap.size, 1, none⟩ = some (.int .u64 l) := KZ.cell 1
                     have z2 : w2.cell? ⟨w.heap.size, 2, none⟩ = some (.bool true) := KZ.cell 2
                     have f0 := KZ.free 0
                     have f1 := KZ.free 1
                     have f2 := KZ.free 2
                     have KZ := Lib.hid KZ
                     have hlt : w.heap.size < w2.heap.size := by have := SZ.out; have := bw.size; omega)
        go_roundw
        case rel => exact ⟨H, Q, T - 1, by congr 1; omega, hH, hQ, by omega, HX, (show Hid (Blk _ _ _ _) from (Blk.three_set KZ.out).alloc _),
          (show Hid (Blk _ _ _ _) from ((((RB.out.below bw (by have := SZ.out; omega)).set_other 0 _ (by omega)).set_other 1 _ (by omega)).set_other 2 _ (by omega)).alloc _),
          (show Hid (Below _ _ _) from ((((BW.out.trans (bw.mono (by have := SZ.out; omega))).setCell (Nat.le_refl _) _).setCell (Nat.le_refl _) _).setCell (Nat.le_refl _) _).alloc (by simp; have := SZ.out; have := bw.size; omega) _),
          (show Hid (_ ≤ _) from by show _ ≤ _; simp; omega)⟩
        case measure => simp [intOf]; omega
      · have hm : Hid (¬ (h * 18446744073709551616 + l) % 10 = 0) := by have := Hr.out; show ¬ _; omega
        have HX : Hid (R = (sg true (h * 18446744073709551616 + l), T)) := by show _ = _; rw [← HX0.out, hlen.out]; exact red_stop hm.out
        have g1 : ¬ ((r : Int) = 0) := by omega
        clear HX0 hm hlen
        go_upto_region 8 with (go_at_call 54; refine (HC.out _).mono ?_; rintro e w2 ⟨rfl, bw⟩)
        have KZ : Hid (Blk (w2.alloc (.cells #[.int .u64 H, .int .u64 Q, .bool true] 60)) w.heap.size #[.int .u64 h, .int .u64 l, .bool true] 60) := (KB.out.below bw (by have := SZ.out; omega)).alloc _
        have RZ : Hid (Blk (w2.alloc (.cells #[.int .u64 H, .int .u64 Q, .bool true] 60)) (w.heap.size + 1) #[.int .i64 0, .int .i64 0, .int .i64 0, .string ⟨#[]⟩, .slice none 0 0, .slice none 0 0] 25) := (RB.out.below bw (by have := SZ.out; omega)).alloc _
        have BZ : Hid (Below w.heap.size w (w2.alloc (.cells #[.int .u64 H, .int .u64 Q, .bool true] 60))) := (BW.out.trans (bw.mono (by have := SZ.out; omega))).alloc (by have := SZ.out; have := bw.size; omega) _
        generalize (w2.alloc (.cells #[.int .u64 H, .int .u64 Q, .bool true] 60)) = wz at *
        have z0 : wz.cell? ⟨w.heap.size, 0, none⟩ = some (.int .u64 h) := KZ.out.cell 0
        have z1 : wz.cell? ⟨w.heap.size, 1, none⟩ = some (.int .u64 l) := KZ.out.cell 1
        have z2 : wz.cell? ⟨w.heap.size, 2, none⟩ = some (.bool true) := KZ.out.cell 2
        clear y0 y1 y2 KB RB BW HC bw
        have p0 : wz.cell? ⟨w.heap.size + 1, 0, none⟩ = some (.int .i64 0) := RZ.out.cell 0
        have q_0 := RZ.out.free 0
        have p1 : wz.cell? ⟨w.heap.size + 1, 1, none⟩ = some (.int .i64 0) := RZ.out.cell 1
        have q_1 := RZ.out.free 1
        have p2 : wz.cell? ⟨w.heap.size + 1, 2, none⟩ = some (.int .i64 0) := RZ.out.cell 2
        have q_2 := RZ.out.free 2
        have p3 : wz.cell? ⟨w.heap.size + 1, 3, none⟩ = some (.string ⟨#[]⟩) := RZ.out.cell 3
        have q_3 := RZ.out.free 3
        have p4 : wz.cell? ⟨w.heap.size + 1, 4, none⟩ = some (.slice none 0 0) := RZ.out.cell 4
        have q_4 := RZ.out.free 4
        have p5 : wz.cell? ⟨w.heap.size + 1, 5, none⟩ = some (.slice none 0 0) := RZ.out.cell 5
        have q_5 := RZ.out.free 5
        rcases (by omega : 18 < T ∨ (T ≤ 18 ∧ 0 < h) ∨ (T ≤ 18 ∧ h = 0)) with hA | ⟨hA, hB⟩ | ⟨hA, hB⟩
        · have q1 : (18 : Int) < (T : Int) := by omega
          have HN : Hid (LP = none) := by
            show _ = _
            rw [HF.out, HX.out, if_neg (by first | (simp [fits, sg]; done) | (simp [fits, sg]; omega))]
          clear HF HX
          go_wp2_with fail
          exact ret6 Tryd.results33 rfl rfl RZ.out (Nat.le_succ _) BZ.out (by rw [HN.out]; first | (simp [ansv, numv, sg, str]; done) | (simp [ansv, numv, sg, str]; exact (wneg1 hP hC).symm) | (simp [ansv, numv, sg, str]; assumption) | (simp [ansv, numv, sg, str]; omega))
        · have q1 : ¬ ((18 : Int) < (T : Int)) := by omega
          have q2 : ¬ ((h : Int) = 0) := by omega
          have HN : Hid (LP = none) := by
            show _ = _
            rw [HF.out, HX.out, if_neg (by first | (simp [fits, sg]; done) | (simp [fits, sg]; omega))]
          clear HF HX
          go_wp2_with fail
          exact ret6 Tryd.results33 rfl rfl RZ.out (Nat.le_succ _) BZ.out (by rw [HN.out]; first | (simp [ansv, numv, sg, str]; done) | (simp [ansv, numv, sg, str]; exact (wneg1 hP hC).symm) | (simp [ansv, numv, sg, str]; assumption) | (simp [ansv, numv, sg, str]; omega))
        · subst hB
          have q1 : ¬ ((18 : Int) < (T : Int)) := by omega
          have q3 : ¬ ((T : Int) = 0) := by omega
          rcases (by omega : (9223372036854775808 < l) ∨ (0 < l ∧ l ≤ 9223372036854775808) ∨ l = 0) with hC | ⟨hP, hC⟩ | hC
          · have q2 : (9223372036854775808 : Int) < (l : Int) := by omega
            have HN : Hid (LP = none) := by
              show _ = _
              rw [HF.out, HX.out, if_neg (by first | (simp [fits, sg]; done) | (simp [fits, sg]; omega))]
            clear HF HX
            go_wp2_with fail
            exact ret6 Tryd.results33 rfl rfl RZ.out (Nat.le_succ _) BZ.out (by rw [HN.out]; first | (simp [ansv, numv, sg, str]; done) | (simp [ansv, numv, sg, str]; exact (wneg1 hP hC).symm) | (simp [ansv, numv, sg, str]; assumption) | (simp [ansv, numv, sg, str]; omega))
          · rcases Nat.lt_or_eq_of_le hC with hC4 | hC4
            · have q4 : ¬ ((l : Int) = 9223372036854775808) := by omega
              have q2 : ¬ ((9223372036854775808 : Int) < (l : Int)) := by omega
              have q5 : ¬ ((l : Int) = 0) := by omega
              have HN : Hid (LP = some ⟨4, sg true l, T, [], []⟩) := by
                show _ = _
                rw [HF.out, HX.out, if_pos (by first | (simp [fits, sg]; done) | (simp [fits, sg]; omega))]
                simp [nodeOf, sg]; omega
              clear HF HX
              go_wp2_with fail
              exact ret6 Tryd.results33 rfl rfl RZ.out (Nat.le_succ _) BZ.out (by rw [HN.out]; first | (simp [ansv, numv, sg, str]; done) | (simp [ansv, numv, sg, str]; exact (wneg1 hP hC).symm) | (simp [ansv, numv, sg, str]; assumption) | (simp [ansv, numv, sg, str]; omega))
            · have q4 : (l : Int) = 9223372036854775808 := by omega
              have q2 : ¬ ((9223372036854775808 : Int) < (l : Int)) := by omega
              have q5 : ¬ ((l : Int) = 0) := by omega
              have HN : Hid (LP = some ⟨4, sg true l, T, [], []⟩) := by
                show _ = _
                rw [HF.out, HX.out, if_pos (by first | (simp [fits, sg]; done) | (simp [fits, sg]; omega))]
                simp [nodeOf, sg]; omega
              clear HF HX
              go_wp2_with fail
              exact ret6 Tryd.results33 rfl rfl RZ.out (Nat.le_succ _) BZ.out (by rw [HN.out]; first | (simp [ansv, numv, sg, str]; done) | (simp [ansv, numv, sg, str]; exact (wneg1 hP hC).symm) | (simp [ansv, numv, sg, str]; assumption) | (simp [ansv, numv, sg, str]; omega))
          · subst hC
            have HN : Hid (LP = some ⟨4, sg true 0, T, [], []⟩) := by
              show _ = _
              rw [HF.out, HX.out, if_pos (by first | (simp [fits, sg]; done) | (simp [fits, sg]; omega))]
              simp [nodeOf, sg]; omega
            clear HF HX
            go_wp2_with fail
            exact ret6 Tryd.results33 rfl rfl RZ.out (Nat.le_succ _) BZ.out (by rw [HN.out]; first | (simp [ansv, numv, sg, str]; done) | (simp [ansv, numv, sg, str]; exact (wneg1 hP hC).symm) | (simp [ansv, numv, sg, str]; assumption) | (simp [ansv, numv, sg, str]; omega))
set_option maxRecDepth 100000 in
set_option maxHeartbeats 6400000 in
theorem rleast_true_lo (b : Nat) (hb : b < 18446744073709551616) (h1 : 0 < b) (s : Nat) (hs : s ≤ 9223372036854775807) (w : World) :
    Calls Tryd.prog 33 #[.agg #[.int .u64 0, .int .u64 b, .bool true], .int .i64 s] w
      (Ret (ansv (leastP (sg true (0 * 18446744073709551616 + b)) s)) w) := by
  have b0 : Blk ((w.alloc (.cells #[.int .u64 0, .int .u64 b, .bool true] 60)).alloc (.cells #[.int .i64 0, .int .i64 0, .int .i64 0, .string ⟨#[]⟩, .slice none 0 0, .slice none 0 0] 25)) w.heap.size #[.int .u64 0, .int .u64 b, .bool true] 60 := (Blk.new w _ _).alloc _
  have b1 : Blk ((w.alloc (.cells #[.int .u64 0, .int .u64 b, .bool true] 60)).alloc (.cells #[.int .i64 0, .int .i64 0, .int .i64 0, .string ⟨#[]⟩, .slice none 0 0, .slice none 0 0] 25)) (w.heap.size + 1) #[.int .i64 0, .int .i64 0, .int .i64 0, .string ⟨#[]⟩, .slice none 0 0, .slice none 0 0] 25 := by
    have := Blk.new (w.alloc (.cells #[.int .u64 0, .int .u64 b, .bool true] 60)) #[.int .i64 0, .int .i64 0, .int .i64 0, .string ⟨#[]⟩, .slice none 0 0, .slice none 0 0] 25
    simpa using this
  have b2 : Below w.heap.size w ((w.alloc (.cells #[.int .u64 0, .int .u64 b, .bool true] 60)).alloc (.cells #[.int .i64 0, .int .i64 0, .int .i64 0, .string ⟨#[]⟩, .slice none 0 0, .slice none 0 0] 25)) := ((Below.refl _ _).alloc (Nat.le_refl _) _).alloc (by simp) _
  have b3 : w.heap.size + 2 ≤ ((w.alloc (.cells #[.int .u64 0, .int .u64 b, .bool true] 60)).alloc (.cells #[.int .i64 0, .int .i64 0, .int .i64 0, .string ⟨#[]⟩, .slice none 0 0, .slice none 0 0] 25)).heap.size := by simp
  generalize hW : (w.alloc (.cells #[.int .u64 0, .int .u64 b, .bool true] 60)).alloc (.cells #[.int .i64 0, .int .i64 0, .int .i64 0, .string ⟨#[]⟩, .slice none 0 0, .slice none 0 0] 25) = Wb at *
  have x0 : Wb.cell? ⟨w.heap.size, 0, none⟩ = some (.int .u64 0) := b0.cell 0
  have x1 : Wb.cell? ⟨w.heap.size, 1, none⟩ = some (.int .u64 b) := b0.cell 1
  have B0 := Lib.hid b0; have B1 := Lib.hid b1; have B2 := Lib.hid b2; have B3 := Lib.hid b3
  clear b0 b1 b2 b3
  generalize hR : red s (sg true (0 * 18446744073709551616 + b)) = R
  have HR := Lib.hid hR
  have HF : Hid (leastP (sg true (0 * 18446744073709551616 + b)) s = if fits R.1 R.2 then some (nodeOf R.1 R.2) else none) := by show _ = _; unfold leastP; rw [hR]
  generalize leastP (sg true (0 * 18446744073709551616 + b)) s = LP at *
  clear hR
  have e1 : ((b : Int) == 0) = false := by simp; omega
  go_enter Tryd.func33, Tryd.ntmps33
  go_wp2_with fail
  clear hW x0 x1 e1
  go_loopw [1] (fun s1 wr => ∃ h l t : Nat, s1 = .int .i64 t ∧ h < 18446744073709551616 ∧ l < 18446744073709551616 ∧ t ≤ s ∧ Hid (red t (sg true (h * 18446744073709551616 + l)) = R) ∧
    Hid (Blk wr w.heap.size #[.int .u64 h, .int .u64 l, .bool true] 60) ∧ Hid (Blk wr (w.heap.size + 1) #[.int .i64 0, .int .i64 0, .int .i64 0, .string ⟨#[]⟩, .slice none 0 0, .slice none 0 0] 25) ∧ Hid (Below w.heap.size w wr) ∧ Hid (w.heap.size + 2 ≤ wr.heap.size)) (fun s1 _ => (intOf s1).toNat)
  case atStart => exact ⟨0, b, s, rfl, by decide, hb, Nat.le_refl _, HR, B0, B1, B2, B3⟩
  case round =>
    obtain ⟨h, l, T, rfl, hh, hl, hts, HX0, KB, RB, BW, SZ⟩ := hrel
    have y0 : wr.cell? ⟨w.heap.size, 0, none⟩ = some (.int .u64 h) := KB.out.cell 0
    have y1 : wr.cell? ⟨w.heap.size, 1, none⟩ = some (.int .u64 l) := KB.out.cell 1
    have y2 : wr.cell? ⟨w.heap.size, 2, none⟩ = some (.bool true) := KB.out.cell 2
    rcases Nat.eq_zero_or_pos T with h0 | h0
    · subst h0
      have HX : Hid (R = (sg true (h * 18446744073709551616 + l), 0)) := by show _ = _; rw [← HX0.out]; rfl
      clear HX0
      go_upto_region 8 with fail
      have p0 : wr.cell? ⟨w.heap.size + 1, 0, none⟩ = some (.int .i64 0) := RB.out.cell 0
      have q_0 := RB.out.free 0
      have p1 : wr.cell? ⟨w.heap.size + 1, 1, none⟩ = some (.int .i64 0) := RB.out.cell 1
      have q_1 := RB.out.free 1
      have p2 : wr.cell? ⟨w.heap.size + 1, 2, none⟩ = some (.int .i64 0) := RB.out.cell 2
      have q_2 := RB.out.free 2
      have p3 : wr.cell? ⟨w.heap.size + 1, 3, none⟩ = some (.string ⟨#[]⟩) := RB.out.cell 3
      have q_3 := RB.out.free 3
      have p4 : wr.cell? ⟨w.heap.size + 1, 4, none⟩ = some (.slice none 0 0) := RB.out.cell 4
      have q_4 := RB.out.free 4
      have p5 : wr.cell? ⟨w.heap.size + 1, 5, none⟩ = some (.slice none 0 0) := RB.out.cell 5
      have q_5 := RB.out.free 5
      rcases Nat.eq_zero_or_pos h with hB | hB
      · subst hB
        rcases (by omega : (9223372036854775808 < l) ∨ (0 < l ∧ l ≤ 9223372036854775808) ∨ l = 0) with hC | ⟨hP, hC⟩ | hC
        · have q2 : (9223372036854775808 : Int) < (l : Int) := by omega
          have HN : Hid (LP = none) := by
            show _ = _
            rw [HF.out, HX.out, if_neg (by first | (simp [fits, sg]; done) | (simp [fits, sg]; omega))]
          clear HF HX
          go_wp2_with fail
          exact ret6 Tryd.results33 rfl rfl RB.out (Nat.le_succ _) BW.out (by rw [HN.out]; first | (simp [ansv, numv, sg, str]; done) | (simp [ansv, numv, sg, str]; exact (wneg1 hP hC).symm) | (simp [ansv, numv, sg, str]; assumption) | (simp [ansv, numv, sg, str]; omega))
        · rcases Nat.lt_or_eq_of_le hC with hC4 | hC4
          · have q4 : ¬ ((l : Int) = 9223372036854775808) := by omega
            have q2 : ¬ ((9223372036854775808 : Int) < (l : Int)) := by omega
            have q5 : ¬ ((l : Int) = 0) := by omega
            have HN : Hid (LP = some ⟨3, sg true l, 0, [], []⟩) := by
              show _ = _
              rw [HF.out, HX.out, if_pos (by first | (simp [fits, sg]; done) | (simp [fits, sg]; omega))]
              simp [nodeOf, sg]
            clear HF HX
            go_wp2_with fail
            exact ret6 Tryd.results33 rfl rfl RB.out (Nat.le_succ _) BW.out (by rw [HN.out]; first | (simp [ansv, numv, sg, str]; done) | (simp [ansv, numv, sg, str]; exact (wneg1 hP hC).symm) | (simp [ansv, numv, sg, str]; assumption) | (simp [ansv, numv, sg, str]; omega))
          · have q4 : (l : Int) = 9223372036854775808 := by omega
            have q2 : ¬ ((9223372036854775808 : Int) < (l : Int)) := by omega
            have q5 : ¬ ((l : Int) = 0) := by omega
            have HN : Hid (LP = some ⟨3, sg true l, 0, [], []⟩) := by
              show _ = _
              rw [HF.out, HX.out, if_pos (by first | (simp [fits, sg]; done) | (simp [fits, sg]; omega))]
              simp [nodeOf, sg]
            clear HF HX
            go_wp2_with fail
            exact ret6 Tryd.results33 rfl rfl RB.out (Nat.le_succ _) BW.out (by rw [HN.out]; first | (simp [ansv, numv, sg, str]; done) | (simp [ansv, numv, sg, str]; exact (wneg1 hP hC).symm) | (simp [ansv, numv, sg, str]; assumption) | (simp [ansv, numv, sg, str]; omega))
        · subst hC
          have HN : Hid (LP = some ⟨3, sg true 0, 0, [], []⟩) := by
            show _ = _
            rw [HF.out, HX.out, if_pos (by first | (simp [fits, sg]; done) | (simp [fits, sg]; omega))]
            simp [nodeOf, sg]
          clear HF HX
          go_wp2_with fail
          exact ret6 Tryd.results33 rfl rfl RB.out (Nat.le_succ _) BW.out (by rw [HN.out]; first | (simp [ansv, numv, sg, str]; done) | (simp [ansv, numv, sg, str]; exact (wneg1 hP hC).symm) | (simp [ansv, numv, sg, str]; assumption) | (simp [ansv, numv, sg, str]; omega))
      · have q2 : ¬ ((h : Int) = 0) := by omega
        have HN : Hid (LP = none) := by
          show _ = _
          rw [HF.out, HX.out, if_neg (by first | (simp [fits, sg]; done) | (simp [fits, sg]; omega))]
        clear HF HX
        go_wp2_with fail
        exact ret6 Tryd.results33 rfl rfl RB.out (Nat.le_succ _) BW.out (by rw [HN.out]; first | (simp [ansv, numv, sg, str]; done) | (simp [ansv, numv, sg, str]; exact (wneg1 hP hC).symm) | (simp [ansv, numv, sg, str]; assumption) | (simp [ansv, numv, sg, str]; omega))
    · have g0 : (0 : Int) < (T : Int) := by omega
      obtain ⟨Q, HQ⟩ : ∃ Q : Nat, Hid (Q = (h % 10 * 18446744073709551616 + l) / 10) := ⟨_, rfl⟩
      obtain ⟨r, Hr⟩ : ∃ r : Nat, Hid (r = (h % 10 * 18446744073709551616 + l) % 10) := ⟨_, rfl⟩
      obtain ⟨H, HH⟩ : ∃ H : Nat, Hid (H = h / 10) := ⟨_, rfl⟩
      have HC : Hid (∀ w : World, Calls Tryd.prog 54 #[.agg #[.int .u64 h, .int .u64 l, .bool true]] w (Ret (.tuple #[.agg #[.int .u64 H, .int .u64 Q, .bool true], .int .u64 (r : Int)]) w)) := fun w => by
        rw [HQ.out, Hr.out, HH.out]
        exact ten_any h l true hh hl w
      have hlen : Hid (T = (T - 1) + 1) := by show _ = _; omega
      rcases Nat.eq_zero_or_pos r with r0 | r0
      · subst r0
        have hm : Hid ((h * 18446744073709551616 + l) % 10 = 0) := by have := Hr.out; show _ = _; omega
        have HX : Hid (red (T - 1) (sg true (H * 18446744073709551616 + Q)) = R) := by
          show _ = _
          rw [← HX0.out, hlen.out, red_step hm.out, Nat.add_sub_cancel, HQ.out, HH.out]
          congr 2
          omega
        have hQ : Q < 18446744073709551616 := by have := HQ.out; omega
        have hH : H < 18446744073709551616 := by have := HH.out; omega
        clear HX0 hm hlen
        go_wp2_with (go_at_call 54; refine (HC.out _).mono ?_; rintro e w2 ⟨rfl, bw⟩
                     have KZ : Blk w2 w.heap.size #[.int .u64 h, .int .u64 l, .bool true] 60 := KB.out.below bw (by have := SZ.out; omega)
                     have z0 : w2.cell? ⟨w.heap.size, 0, none⟩ = some (.int .u64 h) := KZ.cell 0
                     have z1 : w2.cell? ⟨w.heap.size, 1, none⟩ = some (.int .u64 l) := KZ.cell 1
                     have z2 : w2.cell? ⟨w.heap.size, 2, none⟩ = some (.bool true) := KZ.cell 2
                     have f0 := KZ.free 0
                     have f1 := KZ.free 1
                     have f2 := KZ.free 2
                     have KZ := Lib.hid KZ
                     have hlt : w.heap.size < w2.heap.size := by have := SZ.out; have := bw.size; omega)
        go_roundw
        case rel => exact ⟨H, Q, T - 1, by congr 1; omega, hH, hQ, by omega, HX, (show Hid (Blk _ _ _ _) from (Blk.three_set KZ.out).alloc _),
          (show Hid (Blk _ _ _ _) from ((((RB.out.below bw (by have := SZ.out; omega)).set_other 0 _ (by omega)).set_other 1 _ (by omega)).set_other 2 _ (by omega)).alloc _),
          (show Hid (Below _ _ _) from ((((BW.out.trans (bw.mono (by have := SZ.out; omega))).setCell (Nat.le_refl _) _).setCell (Nat.le_refl _) _).setCell (Nat.le_refl _) _).alloc (by simp; have := SZ.out; have := bw.size; omega) _),
          (show Hid (_ ≤ _) from by show _ ≤ _; simp; omega)⟩
        case measure => simp [intOf]; omega
      · have hm : Hid (¬ (h * 18446744073709551616 + l) % 10 = 0) := by have := Hr.out; show ¬ _; omega
        have HX : Hid (R = (sg true (h * 18446744073709551616 + l), T)) := by show _ = _; rw [← HX0.out, hlen.out]; exact red_stop hm.out
        have g1 : ¬ ((r : Int) = 0) := by omega
        clear HX0 hm hlen
        go_upto_region 8 with (go_at_call 54; refine (HC.out _).mono ?_; rintro e w2 ⟨rfl, bw⟩)
        have KZ : Hid (Blk (w2.alloc (.cells #[.int .u64 H, .int .u64 Q, .bool true] 60)) w.heap.size #[.int .u64 h, .int .u64 l, .bool true] 60) := (KB.out.below bw (by have := SZ.out; omega)).alloc _
        have RZ : Hid (Blk (w2.alloc (.cells #[.int .u64 H, .int .u64 Q, .bool true] 60)) (w.heap.size + 1) #[.int .i64 0, .int .i64 0, .int .i64 0, .string ⟨#[]⟩, .slice none 0 0, .slice none 0 0] 25) := (RB.out.below bw (by have := SZ.out; omega)).alloc _
        have BZ : Hid (Below w.heap.size w (w2.alloc (.cells #[.int .u64 H, .int .u64 Q, .bool true] 60))) := (BW.out.trans (bw.mono (by have := SZ.out; omega))).alloc (by have := SZ.out; have := bw.size; omega) _
        generalize (w2.alloc (.cells #[.int .u64 H, .int .u64 Q, .bool true] 60)) = wz at *
        have z0 : wz.cell? ⟨w.heap.size, 0, none⟩ = some (.int .u64 h) := KZ.out.cell 0
        have z1 : wz.cell? ⟨w.heap.size, 1, none⟩ = some (.int .u64 l) := KZ.out.cell 1
        have z2 : wz.cell? ⟨w.heap.size, 2, none⟩ = some (.bool true) := KZ.out.cell 2
        clear y0 y1 y2 KB RB BW HC bw
        have p0 : wz.cell? ⟨w.heap.size + 1, 0, none⟩ = some (.int .i64 0) := RZ.out.cell 0
        have q_0 := RZ.out.free 0
        have p1 : wz.cell? ⟨w.heap.size + 1, 1, none⟩ = some (.int .i64 0) := RZ.out.cell 1
        have q_1 := RZ.out.free 1
        have p2 : wz.cell? ⟨w.heap.size + 1, 2, none⟩ = some (.int .i64 0) := RZ.out.cell 2
        have q_2 := RZ.out.free 2
        have p3 : wz.cell? ⟨w.heap.size + 1, 3, none⟩ = some (.string ⟨#[]⟩) := RZ.out.cell 3
        have q_3 := RZ.out.free 3
        have p4 : wz.cell? ⟨w.heap.size + 1, 4, none⟩ = some (.slice none 0 0) := RZ.out.cell 4
        have q_4 := RZ.out.free 4
        have p5 : wz.cell? ⟨w.heap.size + 1, 5, none⟩ = some (.slice none 0 0) := RZ.out.cell 5
        have q_5 := RZ.out.free 5
        rcases (by omega : 18 < T ∨ (T ≤ 18 ∧ 0 < h) ∨ (T ≤ 18 ∧ h = 0)) with hA | ⟨hA, hB⟩ | ⟨hA, hB⟩
        · have q1 : (18 : Int) < (T : Int) := by omega
          have HN : Hid (LP = none) := by
            show _ = _
            rw [HF.out, HX.out, if_neg (by first | (simp [fits, sg]; done) | (simp [fits, sg]; omega))]
          clear HF HX
          go_wp2_with fail
          exact ret6 Tryd.results33 rfl rfl RZ.out (Nat.le_succ _) BZ.out (by rw [HN.out]; first | (simp [ansv, numv, sg, str]; done) | (simp [ansv, numv, sg, str]; exact (wneg1 hP hC).symm) | (simp [ansv, numv, sg, str]; assumption) | (simp [ansv, numv, sg, str]; omega))
        · have q1 : ¬ ((18 : Int) < (T : Int)) := by omega
          have q2 : ¬ ((h : Int) = 0) := by omega
          have HN : Hid (LP = none) := by
            show _ = _
            rw [HF.out, HX.out, if_neg (by first | (simp [fits, sg]; done) | (simp [fits, sg]; omega))]
          clear HF HX
          go_wp2_with fail
          exact ret6 Tryd.results33 rfl rfl RZ.out (Nat.le_succ _) BZ.out (by rw [HN.out]; first | (simp [ansv, numv, sg, str]; done) | (simp [ansv, numv, sg, str]; exact (wneg1 hP hC).symm) | (simp [ansv, numv, sg, str]; assumption) | (simp [ansv, numv, sg, str]; omega))
        · subst hB
          have q1 : ¬ ((18 : Int) < (T : Int)) := by omega
          have q3 : ¬ ((T : Int) = 0) := by omega
          rcases (by omega : (9223372036854775808 < l) ∨ (0 < l ∧ l ≤ 9223372036854775808) ∨ l = 0) with hC | ⟨hP, hC⟩ | hC
          · have q2 : (9223372036854775808 : Int) < (l : Int) := by omega
            have HN : Hid (LP = none) := by
              show _ = _
              rw [HF.out, HX.out, if_neg (by first | (simp [fits, sg]; done) | (simp [fits, sg]; omega))]
            clear HF HX
            go_wp2_with fail
            exact ret6 Tryd.results33 rfl rfl RZ.out (Nat.le_succ _) BZ.out (by rw [HN.out]; first | (simp [ansv, numv, sg, str]; done) | (simp [ansv, numv, sg, str]; exact (wneg1 hP hC).symm) | (simp [ansv, numv, sg, str]; assumption) | (simp [ansv, numv, sg, str]; omega))
          · rcases Nat.lt_or_eq_of_le hC with hC4 | hC4
            · have q4 : ¬ ((l : Int) = 9223372036854775808) := by omega
              have q2 : ¬ ((9223372036854775808 : Int) < (l : Int)) := by omega
              have q5 : ¬ ((l : Int) = 0) := by omega
              have HN : Hid (LP = some ⟨4, sg true l, T, [], []⟩) := by
                show _ = _
                rw [HF.out, HX.out, if_pos (by first | (simp [fits, sg]; done) | (simp [fits, sg]; omega))]
                simp [nodeOf, sg]; omega
              clear HF HX
              go_wp2_with fail
              exact ret6 Tryd.results33 rfl rfl RZ.out (Nat.le_succ _) BZ.out (by rw [HN.out]; first | (simp [ansv, numv, sg, str]; done) | (simp [ansv, numv, sg, str]; exact (wneg1 hP hC).symm) | (simp [ansv, numv, sg, str]; assumption) | (simp [ansv, numv, sg, str]; omega))
            · have q4 : (l : Int) = 9223372036854775808 := by omega
              have q2 : ¬ ((9223372036854775808 : Int) < (l : Int)) := by omega
              have q5 : ¬ ((l : Int) = 0) := by omega
              have HN : Hid (LP = some ⟨4, sg true l, T, [], []⟩) := by
                show _ = _
                rw [HF.out, HX.out, if_pos (by first | (simp [fits, sg]; done) | (simp [fits, sg]; omega))]
                simp [nodeOf, sg]; omega
              clear HF HX
              go_wp2_with fail
              exact ret6 Tryd.results33 rfl rfl RZ.out (Nat.le_succ _) BZ.out (by rw [HN.out]; first | (simp [ansv, numv, sg, str]; done) | (simp [ansv, numv, sg, str]; exact (wneg1 hP hC).symm) | (simp [ansv, numv, sg, str]; assumption) | (simp [ansv, numv, sg, str]; omega))
          · subst hC
            have HN : Hid (LP = some ⟨4, sg true 0, T, [], []⟩) := by
              show _ = _
              rw [HF.out, HX.out, if_pos (by first | (simp [fits, sg]; done) | (simp [fits, sg]; omega))]
              simp [nodeOf, sg]; omega
            clear HF HX
            go_wp2_with fail
            exact ret6 Tryd.results33 rfl rfl RZ.out (Nat.le_succ _) BZ.out (by rw [HN.out]; first | (simp [ansv, numv, sg, str]; done) | (simp [ansv, numv, sg, str]; exact (wneg1 hP hC).symm) | (simp [ansv, numv, sg, str]; assumption) | (simp [ansv, numv, sg, str]; omega))
set_option maxRecDepth 100000 in
set_option maxHeartbeats 6400000 in
theorem rleast_true_zero  (s : Nat) (hs : s ≤ 9223372036854775807) (w : World) :
    Calls Tryd.prog 33 #[.agg #[.int .u64 0, .int .u64 0, .bool true], .int .i64 s] w
      (Ret (ansv (leastP (sg true (0 * 18446744073709551616 + 0)) s)) w) := by
  have b0 : Blk ((w.alloc (.cells #[.int .u64 0, .int .u64 0, .bool true] 60)).alloc (.cells #[.int .i64 0, .int .i64 0, .int .i64 0, .string ⟨#[]⟩, .slice none 0 0, .slice none 0 0] 25)) w.heap.size #[.int .u64 0, .int .u64 0, .bool true] 60 := (Blk.new w _ _).alloc _
  have b1 : Blk ((w.alloc (.cells #[.int .u64 0, .int .u64 0, .bool true] 60)).alloc (.cells #[.int .i64 0, .int .i64 0, .int .i64 0, .string ⟨#[]⟩, .slice none 0 0, .slice none 0 0] 25)) (w.heap.size + 1) #[.int .i64 0, .int .i64 0, .int .i64 0, .string ⟨#[]⟩, .slice none 0 0, .slice none 0 0] 25 := by
    have := Blk.new (w.alloc (.cells #[.int .u64 0, .int .u64 0, .bool true] 60)) #[.int .i64 0, .int .i64 0, .int .i64 0, .string ⟨#[]⟩, .slice none 0 0, .slice none 0 0] 25
    simpa using this
  have b2 : Below w.heap.size w ((w.alloc (.cells #[.int .u64 0, .int .u64 0, .bool true] 60)).alloc (.cells #[.int .i64 0, .int .i64 0, .int .i64 0, .string ⟨#[]⟩, .slice none 0 0, .slice none 0 0] 25)) := ((Below.refl _ _).alloc (Nat.le_refl _) _).alloc (by simp) _
  have b3 : w.heap.size + 2 ≤ ((w.alloc (.cells #[.int .u64 0, .int .u64 0, .bool true] 60)).alloc (.cells #[.int .i64 0, .int .i64 0, .int .i64 0, .string ⟨#[]⟩, .slice none 0 0, .slice none 0 0] 25)).heap.size := by simp
  generalize hW : (w.alloc (.cells #[.int .u64 0, .int .u64 0, .bool true] 60)).alloc (.cells #[.int .i64 0, .int .i64 0, .int .i64 0, .string ⟨#[]⟩, .slice none 0 0, .slice none 0 0] 25) = Wb at *
  have x0 : Wb.cell? ⟨w.heap.size, 0, none⟩ = some (.int .u64 0) := b0.cell 0
  have x1 : Wb.cell? ⟨w.heap.size, 1, none⟩ = some (.int .u64 0) := b0.cell 1
  have B0 := Lib.hid b0; have B1 := Lib.hid b1; have B2 := Lib.hid b2; have B3 := Lib.hid b3
  clear b0 b1 b2 b3
  generalize hR : red s (sg true (0 * 18446744073709551616 + 0)) = R
  have HR := Lib.hid hR
  have HF : Hid (leastP (sg true (0 * 18446744073709551616 + 0)) s = if fits R.1 R.2 then some (nodeOf R.1 R.2) else none) := by show _ = _; unfold leastP; rw [hR]
  generalize leastP (sg true (0 * 18446744073709551616 + 0)) s = LP at *
  clear hR
  go_enter Tryd.func33, Tryd.ntmps33
  have HX : Hid (R = (sg true (0 * 18446744073709551616 + 0), 0)) := by show _ = _; rw [← HR.out]; exact (red_nought true s).trans (red_nought true 0).symm
  go_wp2_with fail
  clear hW x0 x1
  refine wp_loop_once ?_
  have KB := B0; have RB := B1; have BW := B2
  have y0 : Wb.cell? ⟨w.heap.size, 0, none⟩ = some (.int .u64 0) := KB.out.cell 0
  have y1 : Wb.cell? ⟨w.heap.size, 1, none⟩ = some (.int .u64 0) := KB.out.cell 1
  have y2 : Wb.cell? ⟨w.heap.size, 2, none⟩ = some (.bool true) := KB.out.cell 2
  have p0 : Wb.cell? ⟨w.heap.size + 1, 0, none⟩ = some (.int .i64 0) := RB.out.cell 0
  have q_0 := RB.out.free 0
  have p1 : Wb.cell? ⟨w.heap.size + 1, 1, none⟩ = some (.int .i64 0) := RB.out.cell 1
  have q_1 := RB.out.free 1
  have p2 : Wb.cell? ⟨w.heap.size + 1, 2, none⟩ = some (.int .i64 0) := RB.out.cell 2
  have q_2 := RB.out.free 2
  have p3 : Wb.cell? ⟨w.heap.size + 1, 3, none⟩ = some (.string ⟨#[]⟩) := RB.out.cell 3
  have q_3 := RB.out.free 3
  have p4 : Wb.cell? ⟨w.heap.size + 1, 4, none⟩ = some (.slice none 0 0) := RB.out.cell 4
  have q_4 := RB.out.free 4
  have p5 : Wb.cell? ⟨w.heap.size + 1, 5, none⟩ = some (.slice none 0 0) := RB.out.cell 5
  have q_5 := RB.out.free 5
  have HN : Hid (LP = some ⟨3, sg true 0, 0, [], []⟩) := by
    show _ = _
    rw [HF.out, HX.out, if_pos (by first | (simp [fits, sg]; done) | (simp [fits, sg]; omega))]
    simp [nodeOf, sg]
  clear HF HX
  go_wp2_with fail
  exact ret6 Tryd.results33 rfl rfl RB.out (Nat.le_succ _) BW.out (by rw [HN.out]; first | (simp [ansv, numv, sg, str]; done) | (simp [ansv, numv, sg, str]; exact (wneg1 hP hC).symm) | (simp [ansv, numv, sg, str]; assumption) | (simp [ansv, numv, sg, str]; omega))
theorem rleast_true (a b : Nat) (ha : a < 18446744073709551616) (hb : b < 18446744073709551616) (s : Nat) (hs : s ≤ 9223372036854775807) (w : World) :
    Calls Tryd.prog 33 #[.agg #[.int .u64 a, .int .u64 b, .bool true], .int .i64 s] w
      (Ret (ansv (leastP (sg true (a * 18446744073709551616 + b)) s)) w) := by
  rcases Nat.eq_zero_or_pos a with h | h
  · rcases Nat.eq_zero_or_pos b with h' | h'
    · subst h h'; exact rleast_true_zero s hs w
    · subst h; exact rleast_true_lo b hb h' s hs w
  · exact rleast_true_hi a b ha hb h s hs w
theorem rleast_any (v : Value) (M : Int) (hv : WideIs v M) (s : Nat) (hs : s ≤ 9223372036854775807) (w : World) :
    Calls Tryd.prog 33 #[v, .int .i64 s] w (Ret (ansv (leastP M s)) w) := by
  obtain ⟨a, b, x, rfl, ha, hb, rfl⟩ := hv
  cases x
  · exact rleast_false a b ha hb s hs w
  · exact rleast_true a b ha hb s hs w
end Go.Proofs.YtfcbcbpnlnkpcaaDoor

/- scrivenerref6.Make. -/
import Derived.Test.YtfcbcbpnlnkpcaaDoorQAn
import Derived.Test.YtfcbcbpnlnkpcaaDoorQRdec
import Derived.Test.YtfcbcbpnlnkpcaaDoorQRdecLeast
namespace Go.Proofs.YtfcbcbpnlnkpcaaDoor
set_option linter.all false
open Go.RowKit
set_option maxRecDepth 100000 in
set_option maxHeartbeats 1600000 in
theorem rmake_any (n s : Int) (hn : I64 n) (hs : I64 s) (w : World) :
    Calls Tryd.prog 11 #[.int .i64 n, .int .i64 s] w (Ret (vans (makeR n s)) w) := by
  have rb : Blk (w.alloc (.cells #[.int .i64 0, .int .i64 0, .int .i64 0, .string ⟨#[]⟩, .slice none 0 0, .slice none 0 0] 25)) w.heap.size #[.int .i64 0, .int .i64 0, .int .i64 0, .string ⟨#[]⟩, .slice none 0 0, .slice none 0 0] 25 := Blk.new _ _ _
  have bw := below_ra w (.cells #[.int .i64 0, .int .i64 0, .int .i64 0, .string ⟨#[]⟩, .slice none 0 0, .slice none 0 0] 25)
  generalize hW : w.alloc (.cells #[.int .i64 0, .int .i64 0, .int .i64 0, .string ⟨#[]⟩, .slice none 0 0, .slice none 0 0] 25) = W at *
  have RB := Lib.hid rb
  have BW := Lib.hid bw
  clear rb bw
  by_cases hneg : s < 0
  · have HV : Hid (vans (makeR n s) = .tuple #[.agg #[.int .i64 0, .int .i64 0, .int .i64 0, .string ⟨#[]⟩, .slice none 0 0, .slice none 0 0], .int .i64 10]) := by show _ = _; unfold makeR; rw [if_pos hneg]; rfl
    generalize vans (makeR n s) = V at *
    have p0 : W.cell? ⟨w.heap.size, 0, none⟩ = some (.int .i64 0) := RB.out.cell 0
    have q_0 := RB.out.free 0
    have p1 : W.cell? ⟨w.heap.size, 1, none⟩ = some (.int .i64 0) := RB.out.cell 1
    have q_1 := RB.out.free 1
    have p2 : W.cell? ⟨w.heap.size, 2, none⟩ = some (.int .i64 0) := RB.out.cell 2
    have q_2 := RB.out.free 2
    have p3 : W.cell? ⟨w.heap.size, 3, none⟩ = some (.string ⟨#[]⟩) := RB.out.cell 3
    have q_3 := RB.out.free 3
    have p4 : W.cell? ⟨w.heap.size, 4, none⟩ = some (.slice none 0 0) := RB.out.cell 4
    have q_4 := RB.out.free 4
    have p5 : W.cell? ⟨w.heap.size, 5, none⟩ = some (.slice none 0 0) := RB.out.cell 5
    have q_5 := RB.out.free 5
    go_enter Tryd.func11, Tryd.ntmps11
    go_wp2_with fail
    exact ret6 Tryd.results11 rfl rfl RB.out (Nat.le_refl _) BW.out HV.out
  · have HV : Hid (vans (makeR n s) = ansv (leastP n s.toNat)) := by show _ = _; unfold makeR; rw [if_neg hneg, ansv_vans]; rfl
    have HX : Hid (∃ O : Value, WideIs O n ∧ ∀ w, Calls Tryd.prog 34 #[.int .i64 n] w (Ret O w)) := by
      refine ⟨.agg #[.int .u64 0, .int .u64 (n.natAbs : Int), .bool (decide (n < 0))], ⟨0, n.natAbs, decide (n < 0), rfl, by decide, by have := hn.1; have := hn.2; omega, ?_⟩, fun w => rof_any n hn w⟩
      have := sg_mul n 0
      simpa using this.symm
    obtain ⟨O, hO, ho⟩ := HX.out
    have HO := Lib.hid ho
    have HL : Hid (∀ w, Calls Tryd.prog 33 #[O, .int .i64 s] w (Ret (ansv (leastP n s.toNat)) w)) := fun w => by
      have h := rleast_any O n hO s.toNat (by have := hs.2; omega) w
      rw [show ((s.toNat : Nat) : Int) = s from by omega] at h
      exact h
    obtain ⟨x0, x1, x2, xs, ee, hform⟩ := ansv_form (leastP n s.toNat)
    rw [hform] at HV HL
    generalize vans (makeR n s) = V at *
    clear hform HX hO ho
    go_enter Tryd.func11, Tryd.ntmps11
    go_wp2_with fail
    refine (HO.out _).mono ?_
    rintro e w8 ⟨rfl, b8⟩
    go_wp2_with fail
    refine (HL.out _).mono ?_
    rintro e w9 ⟨rfl, b9⟩
    have b89 := bseq b8 b9
    have R9 : Hid (Blk w9 w.heap.size #[.int .i64 0, .int .i64 0, .int .i64 0, .string ⟨#[]⟩, .slice none 0 0, .slice none 0 0] 25) := RB.out.below b89 RB.out.lt
    have B9 : Hid (Below w.heap.size w w9) := BW.out.trans (b89.mono BW.out.size)
    have p0 : w9.cell? ⟨w.heap.size, 0, none⟩ = some (.int .i64 0) := R9.out.cell 0
    have q_0 := R9.out.free 0
    have p1 : w9.cell? ⟨w.heap.size, 1, none⟩ = some (.int .i64 0) := R9.out.cell 1
    have q_1 := R9.out.free 1
    have p2 : w9.cell? ⟨w.heap.size, 2, none⟩ = some (.int .i64 0) := R9.out.cell 2
    have q_2 := R9.out.free 2
    have p3 : w9.cell? ⟨w.heap.size, 3, none⟩ = some (.string ⟨#[]⟩) := R9.out.cell 3
    have q_3 := R9.out.free 3
    have p4 : w9.cell? ⟨w.heap.size, 4, none⟩ = some (.slice none 0 0) := R9.out.cell 4
    have q_4 := R9.out.free 4
    have p5 : w9.cell? ⟨w.heap.size, 5, none⟩ = some (.slice none 0 0) := R9.out.cell 5
    have q_5 := R9.out.free 5
    clear b8 b9 b89
    go_wp2_with fail
    exact ret6 Tryd.results11 rfl rfl R9.out (Nat.le_refl _) B9.out HV.out
end Go.Proofs.YtfcbcbpnlnkpcaaDoor

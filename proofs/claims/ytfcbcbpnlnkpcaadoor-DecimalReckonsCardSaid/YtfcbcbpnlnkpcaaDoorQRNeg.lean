/- scrivenerref6.neg. (Printed by gen/drneg.py.) -/
import Derived.Test.YtfcbcbpnlnkpcaaDoorQRFr
namespace Go.Proofs.YtfcbcbpnlnkpcaaDoor
set_option linter.all false
open Go.RowKit

set_option maxRecDepth 100000 in
set_option maxHeartbeats 12800000 in
theorem rneg_any (n : Nd) (k : F) (v : Value) (w : World) (hv : Vo w (· < w.heap.size) n k v) :
    Calls Tryd.prog 43 #[v] w (Ret (.tuple #[.agg #[.int .u64 0, .int .u64 (n.int.natAbs : Int), .bool (!decide (n.int < 0))], .int .i64 n.scale]) w) := by
  obtain ⟨An, cAn, Ak, cAk, rfl, hok0, _, _, _, _⟩ := id hv
  have X0 : Blk ((w.alloc (.cells #[.int .i64 n.kind, .int .i64 n.int, .int .i64 n.scale, .string (str n.text), .slice An n.names.length cAn, .slice Ak k.len cAk] 25)).alloc (.cells #[.int .u64 0, .int .u64 0, .bool false] 60)) w.heap.size #[.int .i64 n.kind, .int .i64 n.int, .int .i64 n.scale, .string (str n.text), .slice An n.names.length cAn, .slice Ak k.len cAk] 25 := (Blk.new w _ _).alloc _
  have R0 : Blk ((w.alloc (.cells #[.int .i64 n.kind, .int .i64 n.int, .int .i64 n.scale, .string (str n.text), .slice An n.names.length cAn, .slice Ak k.len cAk] 25)).alloc (.cells #[.int .u64 0, .int .u64 0, .bool false] 60)) (w.heap.size + 1) #[.int .u64 0, .int .u64 0, .bool false] 60 := by
    have := Blk.new (w.alloc (.cells #[.int .i64 n.kind, .int .i64 n.int, .int .i64 n.scale, .string (str n.text), .slice An n.names.length cAn, .slice Ak k.len cAk] 25)) #[.int .u64 0, .int .u64 0, .bool false] 60
    simpa using this
  have B0 : Below w.heap.size w ((w.alloc (.cells #[.int .i64 n.kind, .int .i64 n.int, .int .i64 n.scale, .string (str n.text), .slice An n.names.length cAn, .slice Ak k.len cAk] 25)).alloc (.cells #[.int .u64 0, .int .u64 0, .bool false] 60)) := ((Below.refl _ _).alloc (Nat.le_refl _) _).alloc (by simp) _
  generalize hW0 : (w.alloc (.cells #[.int .i64 n.kind, .int .i64 n.int, .int .i64 n.scale, .string (str n.text), .slice An n.names.length cAn, .slice Ak k.len cAk] 25)).alloc (.cells #[.int .u64 0, .int .u64 0, .bool false] 60) = W0 at *
  have HO : Hid (∀ w, Calls Tryd.prog 34 #[.int .i64 n.int] w (Ret (.agg #[.int .u64 0, .int .u64 (n.int.natAbs : Int), .bool (decide (n.int < 0))]) w)) := fun w => rof_any n.int hok0.2.1 w
  generalize n.int.natAbs = a at *
  generalize decide (n.int < 0) = b at *
  have HX := Lib.hid X0
  have HR := Lib.hid R0
  have HB := Lib.hid B0
  have x1 : W0.cell? ⟨w.heap.size, 1, none⟩ = some (.int .i64 n.int) := X0.cell 1
  clear X0 R0 B0 hv hok0
  unfold ncells
  go_enter Tryd.func43, Tryd.ntmps43
  go_upto_region 3 with (go_at_call 34; refine (HO.out _).mono ?_; rintro e u1 ⟨rfl, b1⟩)
  obtain ⟨W3, hW3⟩ : ∃ W3, u1.alloc (.cells #[.int .u64 0, .int .u64 (a : Int), .bool (!b)] 60) = W3 := ⟨_, rfl⟩
  rw [hW3]
  have b3 : Below W0.heap.size W0 W3 := by rw [← hW3]; exact bseq b1 (below_ra _ _)
  have K3 : Blk W3 u1.heap.size #[.int .u64 0, .int .u64 (a : Int), .bool (!b)] 60 := by rw [← hW3]; exact Blk.new _ _ _
  have R3 := HR.out.below b3 HR.out.lt
  have X3 := HX.out.below b3 HX.out.lt
  have B3 := HB.out.trans (b3.mono HB.out.size)
  have y2 : W3.cell? ⟨w.heap.size, 2, none⟩ = some (.int .i64 n.scale) := X3.cell 2
  have z0 : W3.cell? ⟨u1.heap.size, 0, none⟩ = some (.int .u64 0) := K3.cell 0
  have z1 : W3.cell? ⟨u1.heap.size, 1, none⟩ = some (.int .u64 (a : Int)) := K3.cell 1
  have z2 : W3.cell? ⟨u1.heap.size, 2, none⟩ = some (.bool (!b)) := K3.cell 2
  have p0 : W3.cell? ⟨w.heap.size + 1, 0, none⟩ = some (.int .u64 0) := R3.cell 0
  have p1 : W3.cell? ⟨w.heap.size + 1, 1, none⟩ = some (.int .u64 0) := R3.cell 1
  have p2 : W3.cell? ⟨w.heap.size + 1, 2, none⟩ = some (.bool false) := R3.cell 2
  have q0 := R3.free 0
  have q1 := R3.free 1
  have q2 := R3.free 2
  have X4 : ∀ (a b c : Value), ((((W3.setCell ⟨w.heap.size + 1, 0, none⟩ a).setCell ⟨w.heap.size + 1, 1, none⟩ b).setCell ⟨w.heap.size + 1, 2, none⟩ c)).cell? ⟨w.heap.size, 2, none⟩ = some (.int .i64 n.scale) := fun a b c => (((X3.set_other 0 a (by omega)).set_other 1 b (by omega)).set_other 2 c (by omega)).cell 2
  have HR3 := Lib.hid R3
  have HB3 := Lib.hid B3
  clear hW3 K3 R3 X3 B3 b3 b1 hW0 x1 HX HR HB
  go_region
  have HBk : Hid (Blk ((((W3.setCell ⟨w.heap.size + 1, 0, none⟩ (.int .u64 0)).setCell ⟨w.heap.size + 1, 1, none⟩ (.int .u64 (a : Int))).setCell ⟨w.heap.size + 1, 2, none⟩ (.bool (!b))).drew) (w.heap.size + 1) #[.int .u64 0, .int .u64 (a : Int), .bool (!b)] 60) := (Blk.three_set HR3.out).drew
  have HBl : Hid (Below w.heap.size w ((((W3.setCell ⟨w.heap.size + 1, 0, none⟩ (.int .u64 0)).setCell ⟨w.heap.size + 1, 1, none⟩ (.int .u64 (a : Int))).setCell ⟨w.heap.size + 1, 2, none⟩ (.bool (!b))).drew)) := (((HB3.out.setCell (Nat.le_succ _) _).setCell (Nat.le_succ _) _).setCell (Nat.le_succ _) _).drew
  go_wp2_with fail
  exact bodyPost_ret (results_wide Tryd.results43 rfl rfl HBk.out) rfl ⟨rfl, HBl.out⟩
end Go.Proofs.YtfcbcbpnlnkpcaaDoor

/- scrivenerref6.Sub. (Printed by gen/drsub.py.) -/
import Derived.Test.YtfcbcbpnlnkpcaaDoorQRNeg
namespace Go.Proofs.YtfcbcbpnlnkpcaaDoor
set_option linter.all false
open Go.RowKit

set_option maxRecDepth 100000 in
set_option maxHeartbeats 12800000 in
theorem rsub6_0 (n : Nd) (k : F) (m : Nd) (q : F) (v : Value) (u : Value) (w : World) (hv : Vo w (· < w.heap.size) n k v) (hu : Vo w (· < w.heap.size) m q u) (h1 : numB n k = false) :
    Calls Tryd.prog 22 #[v, u] w (Ret (vans (zN, 11)) w) := by
  obtain ⟨An, cAn, Ak, cAk, rfl, hok0, _, _, _, _⟩ := id hv
  obtain ⟨Bn, cBn, Bk, cBk, rfl, hok1, _, _, _, _⟩ := id hu
  have ST00 : St w [⟨w.heap.size, n, k, An, cAn, Ak, cAk⟩, ⟨w.heap.size + 1, m, q, Bn, cBn, Bk, cBk⟩] ((w.alloc (.cells #[.int .i64 n.kind, .int .i64 n.int, .int .i64 n.scale, .string (str n.text), .slice An n.names.length cAn, .slice Ak k.len cAk] 25)).alloc (.cells #[.int .i64 m.kind, .int .i64 m.int, .int .i64 m.scale, .string (str m.text), .slice Bn m.names.length cBn, .slice Bk q.len cBk] 25)) := by
    have := (St.box_new (St.box_new (St.nil w) hv) hu)
    simpa [ncells, Nat.add_assoc] using this
  have R00 : Blk (((w.alloc (.cells #[.int .i64 n.kind, .int .i64 n.int, .int .i64 n.scale, .string (str n.text), .slice An n.names.length cAn, .slice Ak k.len cAk] 25)).alloc (.cells #[.int .i64 m.kind, .int .i64 m.int, .int .i64 m.scale, .string (str m.text), .slice Bn m.names.length cBn, .slice Bk q.len cBk] 25)).alloc (.cells #[.int .i64 0, .int .i64 0, .int .i64 0, .string ⟨#[]⟩, .slice none 0 0, .slice none 0 0] 25)) (w.heap.size + 1 + 1) #[.int .i64 0, .int .i64 0, .int .i64 0, .string ⟨#[]⟩, .slice none 0 0, .slice none 0 0] 25 := by
    have := Blk.new ((w.alloc (.cells #[.int .i64 n.kind, .int .i64 n.int, .int .i64 n.scale, .string (str n.text), .slice An n.names.length cAn, .slice Ak k.len cAk] 25)).alloc (.cells #[.int .i64 m.kind, .int .i64 m.int, .int .i64 m.scale, .string (str m.text), .slice Bn m.names.length cBn, .slice Bk q.len cBk] 25)) #[.int .i64 0, .int .i64 0, .int .i64 0, .string ⟨#[]⟩, .slice none 0 0, .slice none 0 0] 25
    simpa using this
  have ST0 : Hid (St w [⟨w.heap.size, n, k, An, cAn, Ak, cAk⟩, ⟨w.heap.size + 1, m, q, Bn, cBn, Bk, cBk⟩] (((w.alloc (.cells #[.int .i64 n.kind, .int .i64 n.int, .int .i64 n.scale, .string (str n.text), .slice An n.names.length cAn, .slice Ak k.len cAk] 25)).alloc (.cells #[.int .i64 m.kind, .int .i64 m.int, .int .i64 m.scale, .string (str m.text), .slice Bn m.names.length cBn, .slice Bk q.len cBk] 25)).alloc (.cells #[.int .i64 0, .int .i64 0, .int .i64 0, .string ⟨#[]⟩, .slice none 0 0, .slice none 0 0] 25))) := ST00.step (below_ra _ _)
  have R0 := Lib.hid R00
  clear R00 ST00
  generalize hW0 : ((w.alloc (.cells #[.int .i64 n.kind, .int .i64 n.int, .int .i64 n.scale, .string (str n.text), .slice An n.names.length cAn, .slice Ak k.len cAk] 25)).alloc (.cells #[.int .i64 m.kind, .int .i64 m.int, .int .i64 m.scale, .string (str m.text), .slice Bn m.names.length cBn, .slice Bk q.len cBk] 25)).alloc (.cells #[.int .i64 0, .int .i64 0, .int .i64 0, .string ⟨#[]⟩, .slice none 0 0, .slice none 0 0] 25) = W0 at *
  unfold ncells
  have HI0 : Hid (∀ W, Vo W (· < W.heap.size) n k (.agg #[.int .i64 n.kind, .int .i64 n.int, .int .i64 n.scale, .string (str n.text), .slice An n.names.length cAn, .slice Ak k.len cAk]) → Calls Tryd.prog 14 #[.agg #[.int .i64 n.kind, .int .i64 n.int, .int .i64 n.scale, .string (str n.text), .slice An n.names.length cAn, .slice Ak k.len cAk]] W (Ret (.bool (numB n k)) W)) := fun W h => is_any n k _ W h
  have HI1 : Hid (∀ W, Vo W (· < W.heap.size) m q (.agg #[.int .i64 m.kind, .int .i64 m.int, .int .i64 m.scale, .string (str m.text), .slice Bn m.names.length cBn, .slice Bk q.len cBk]) → Calls Tryd.prog 14 #[.agg #[.int .i64 m.kind, .int .i64 m.int, .int .i64 m.scale, .string (str m.text), .slice Bn m.names.length cBn, .slice Bk q.len cBk]] W (Ret (.bool (numB m q)) W)) := fun W h => is_any m q _ W h
  rw [h1] at HI0
  clear hv hu h1
  go_enter Tryd.func22, Tryd.ntmps22
  go_upto_region 1 with fail
  clear hW0
  obtain ⟨x0_0, x0_1, x0_2, x0_3, x0_4, x0_5⟩ : _ := ST0.out.six 0 rfl
  go_wp2_with fail
  refine (HI0.out _ (ST0.out.v 0 rfl)).mono ?_
  rintro e' u1 ⟨rfl, c1⟩
  have ST1 : Hid (St w [⟨w.heap.size, n, k, An, cAn, Ak, cAk⟩, ⟨w.heap.size + 1, m, q, Bn, cBn, Bk, cBk⟩] u1) := ST0.out.step c1
  have R1 : Hid (Blk u1 (w.heap.size + 1 + 1) #[.int .i64 0, .int .i64 0, .int .i64 0, .string ⟨#[]⟩, .slice none 0 0, .slice none 0 0] 25) := R0.out.below c1 R0.out.lt
  clear c1
  clear x0_0 x0_1 x0_2 x0_3 x0_4 x0_5
  have p0 : u1.cell? ⟨w.heap.size + 1 + 1, 0, none⟩ = some (.int .i64 0) := R1.out.cell 0
  have q_0 := R1.out.free 0
  have p1 : u1.cell? ⟨w.heap.size + 1 + 1, 1, none⟩ = some (.int .i64 0) := R1.out.cell 1
  have q_1 := R1.out.free 1
  have p2 : u1.cell? ⟨w.heap.size + 1 + 1, 2, none⟩ = some (.int .i64 0) := R1.out.cell 2
  have q_2 := R1.out.free 2
  have p3 : u1.cell? ⟨w.heap.size + 1 + 1, 3, none⟩ = some (.string ⟨#[]⟩) := R1.out.cell 3
  have q_3 := R1.out.free 3
  have p4 : u1.cell? ⟨w.heap.size + 1 + 1, 4, none⟩ = some (.slice none 0 0) := R1.out.cell 4
  have q_4 := R1.out.free 4
  have p5 : u1.cell? ⟨w.heap.size + 1 + 1, 5, none⟩ = some (.slice none 0 0) := R1.out.cell 5
  have q_5 := R1.out.free 5
  go_wp2_with fail
  exact ret6 Tryd.results22 rfl rfl R1.out (by omega) ST1.out.1 rfl
set_option maxRecDepth 100000 in
set_option maxHeartbeats 12800000 in
theorem rsub6_1 (n : Nd) (k : F) (m : Nd) (q : F) (v : Value) (u : Value) (w : World) (hv : Vo w (· < w.heap.size) n k v) (hu : Vo w (· < w.heap.size) m q u) (h1 : numB n k = true) (h2 : numB m q = false) :
    Calls Tryd.prog 22 #[v, u] w (Ret (vans (zN, 11)) w) := by
  obtain ⟨An, cAn, Ak, cAk, rfl, hok0, _, _, _, _⟩ := id hv
  obtain ⟨Bn, cBn, Bk, cBk, rfl, hok1, _, _, _, _⟩ := id hu
  have ST00 : St w [⟨w.heap.size, n, k, An, cAn, Ak, cAk⟩, ⟨w.heap.size + 1, m, q, Bn, cBn, Bk, cBk⟩] ((w.alloc (.cells #[.int .i64 n.kind, .int .i64 n.int, .int .i64 n.scale, .string (str n.text), .slice An n.names.length cAn, .slice Ak k.len cAk] 25)).alloc (.cells #[.int .i64 m.kind, .int .i64 m.int, .int .i64 m.scale, .string (str m.text), .slice Bn m.names.length cBn, .slice Bk q.len cBk] 25)) := by
    have := (St.box_new (St.box_new (St.nil w) hv) hu)
    simpa [ncells, Nat.add_assoc] using this
  have R00 : Blk (((w.alloc (.cells #[.int .i64 n.kind, .int .i64 n.int, .int .i64 n.scale, .string (str n.text), .slice An n.names.length cAn, .slice Ak k.len cAk] 25)).alloc (.cells #[.int .i64 m.kind, .int .i64 m.int, .int .i64 m.scale, .string (str m.text), .slice Bn m.names.length cBn, .slice Bk q.len cBk] 25)).alloc (.cells #[.int .i64 0, .int .i64 0, .int .i64 0, .string ⟨#[]⟩, .slice none 0 0, .slice none 0 0] 25)) (w.heap.size + 1 + 1) #[.int .i64 0, .int .i64 0, .int .i64 0, .string ⟨#[]⟩, .slice none 0 0, .slice none 0 0] 25 := by
    have := Blk.new ((w.alloc (.cells #[.int .i64 n.kind, .int .i64 n.int, .int .i64 n.scale, .string (str n.text), .slice An n.names.length cAn, .slice Ak k.len cAk] 25)).alloc (.cells #[.int .i64 m.kind, .int .i64 m.int, .int .i64 m.scale, .string (str m.text), .slice Bn m.names.length cBn, .slice Bk q.len cBk] 25)) #[.int .i64 0, .int .i64 0, .int .i64 0, .string ⟨#[]⟩, .slice none 0 0, .slice none 0 0] 25
    simpa using this
  have ST0 : Hid (St w [⟨w.heap.size, n, k, An, cAn, Ak, cAk⟩, ⟨w.heap.size + 1, m, q, Bn, cBn, Bk, cBk⟩] (((w.alloc (.cells #[.int .i64 n.kind, .int .i64 n.int, .int .i64 n.scale, .string (str n.text), .slice An n.names.length cAn, .slice Ak k.len cAk] 25)).alloc (.cells #[.int .i64 m.kind, .int .i64 m.int, .int .i64 m.scale, .string (str m.text), .slice Bn m.names.length cBn, .slice Bk q.len cBk] 25)).alloc (.cells #[.int .i64 0, .int .i64 0, .int .i64 0, .string ⟨#[]⟩, .slice none 0 0, .slice none 0 0] 25))) := ST00.step (below_ra _ _)
  have R0 := Lib.hid R00
  clear R00 ST00
  generalize hW0 : ((w.alloc (.cells #[.int .i64 n.kind, .int .i64 n.int, .int .i64 n.scale, .string (str n.text), .slice An n.names.length cAn, .slice Ak k.len cAk] 25)).alloc (.cells #[.int .i64 m.kind, .int .i64 m.int, .int .i64 m.scale, .string (str m.text), .slice Bn m.names.length cBn, .slice Bk q.len cBk] 25)).alloc (.cells #[.int .i64 0, .int .i64 0, .int .i64 0, .string ⟨#[]⟩, .slice none 0 0, .slice none 0 0] 25) = W0 at *
  unfold ncells
  have HI0 : Hid (∀ W, Vo W (· < W.heap.size) n k (.agg #[.int .i64 n.kind, .int .i64 n.int, .int .i64 n.scale, .string (str n.text), .slice An n.names.length cAn, .slice Ak k.len cAk]) → Calls Tryd.prog 14 #[.agg #[.int .i64 n.kind, .int .i64 n.int, .int .i64 n.scale, .string (str n.text), .slice An n.names.length cAn, .slice Ak k.len cAk]] W (Ret (.bool (numB n k)) W)) := fun W h => is_any n k _ W h
  have HI1 : Hid (∀ W, Vo W (· < W.heap.size) m q (.agg #[.int .i64 m.kind, .int .i64 m.int, .int .i64 m.scale, .string (str m.text), .slice Bn m.names.length cBn, .slice Bk q.len cBk]) → Calls Tryd.prog 14 #[.agg #[.int .i64 m.kind, .int .i64 m.int, .int .i64 m.scale, .string (str m.text), .slice Bn m.names.length cBn, .slice Bk q.len cBk]] W (Ret (.bool (numB m q)) W)) := fun W h => is_any m q _ W h
  rw [h1] at HI0
  rw [h2] at HI1
  clear hv hu h1 h2
  go_enter Tryd.func22, Tryd.ntmps22
  go_upto_region 1 with fail
  clear hW0
  obtain ⟨x0_0, x0_1, x0_2, x0_3, x0_4, x0_5⟩ : _ := ST0.out.six 0 rfl
  go_wp2_with fail
  refine (HI0.out _ (ST0.out.v 0 rfl)).mono ?_
  rintro e' u1 ⟨rfl, c1⟩
  have ST1 : Hid (St w [⟨w.heap.size, n, k, An, cAn, Ak, cAk⟩, ⟨w.heap.size + 1, m, q, Bn, cBn, Bk, cBk⟩] u1) := ST0.out.step c1
  have R1 : Hid (Blk u1 (w.heap.size + 1 + 1) #[.int .i64 0, .int .i64 0, .int .i64 0, .string ⟨#[]⟩, .slice none 0 0, .slice none 0 0] 25) := R0.out.below c1 R0.out.lt
  clear c1
  clear x0_0 x0_1 x0_2 x0_3 x0_4 x0_5
  obtain ⟨x1_0, x1_1, x1_2, x1_3, x1_4, x1_5⟩ : _ := ST1.out.six 1 rfl
  go_wp2_with fail
  refine (HI1.out _ (ST1.out.v 1 rfl)).mono ?_
  rintro e' u2 ⟨rfl, c2⟩
  have ST2 : Hid (St w [⟨w.heap.size, n, k, An, cAn, Ak, cAk⟩, ⟨w.heap.size + 1, m, q, Bn, cBn, Bk, cBk⟩] u2) := ST1.out.step c2
  have R2 : Hid (Blk u2 (w.heap.size + 1 + 1) #[.int .i64 0, .int .i64 0, .int .i64 0, .string ⟨#[]⟩, .slice none 0 0, .slice none 0 0] 25) := R1.out.below c2 R1.out.lt
  clear c2
  clear x1_0 x1_1 x1_2 x1_3 x1_4 x1_5
  have p0 : u2.cell? ⟨w.heap.size + 1 + 1, 0, none⟩ = some (.int .i64 0) := R2.out.cell 0
  have q_0 := R2.out.free 0
  have p1 : u2.cell? ⟨w.heap.size + 1 + 1, 1, none⟩ = some (.int .i64 0) := R2.out.cell 1
  have q_1 := R2.out.free 1
  have p2 : u2.cell? ⟨w.heap.size + 1 + 1, 2, none⟩ = some (.int .i64 0) := R2.out.cell 2
  have q_2 := R2.out.free 2
  have p3 : u2.cell? ⟨w.heap.size + 1 + 1, 3, none⟩ = some (.string ⟨#[]⟩) := R2.out.cell 3
  have q_3 := R2.out.free 3
  have p4 : u2.cell? ⟨w.heap.size + 1 + 1, 4, none⟩ = some (.slice none 0 0) := R2.out.cell 4
  have q_4 := R2.out.free 4
  have p5 : u2.cell? ⟨w.heap.size + 1 + 1, 5, none⟩ = some (.slice none 0 0) := R2.out.cell 5
  have q_5 := R2.out.free 5
  go_wp2_with fail
  exact ret6 Tryd.results22 rfl rfl R2.out (by omega) ST2.out.1 rfl
set_option maxRecDepth 100000 in
set_option maxHeartbeats 12800000 in
theorem rsub6_c (n : Nd) (k : F) (m : Nd) (q : F) (v : Value) (u : Value) (w : World) (hv : Vo w (· < w.heap.size) n k v) (hu : Vo w (· < w.heap.size) m q u) (h1 : numB n k = true) (h2 : numB m q = true) :
    Calls Tryd.prog 22 #[v, u] w (Ret (vans (subR n k m q)) w) := by
  obtain ⟨An, cAn, Ak, cAk, rfl, hok0, _, _, _, _⟩ := id hv
  obtain ⟨Bn, cBn, Bk, cBk, rfl, hok1, _, _, _, _⟩ := id hu
  have ST00 : St w [⟨w.heap.size, n, k, An, cAn, Ak, cAk⟩, ⟨w.heap.size + 1, m, q, Bn, cBn, Bk, cBk⟩] ((w.alloc (.cells #[.int .i64 n.kind, .int .i64 n.int, .int .i64 n.scale, .string (str n.text), .slice An n.names.length cAn, .slice Ak k.len cAk] 25)).alloc (.cells #[.int .i64 m.kind, .int .i64 m.int, .int .i64 m.scale, .string (str m.text), .slice Bn m.names.length cBn, .slice Bk q.len cBk] 25)) := by
    have := (St.box_new (St.box_new (St.nil w) hv) hu)
    simpa [ncells, Nat.add_assoc] using this
  have R00 : Blk (((w.alloc (.cells #[.int .i64 n.kind, .int .i64 n.int, .int .i64 n.scale, .string (str n.text), .slice An n.names.length cAn, .slice Ak k.len cAk] 25)).alloc (.cells #[.int .i64 m.kind, .int .i64 m.int, .int .i64 m.scale, .string (str m.text), .slice Bn m.names.length cBn, .slice Bk q.len cBk] 25)).alloc (.cells #[.int .i64 0, .int .i64 0, .int .i64 0, .string ⟨#[]⟩, .slice none 0 0, .slice none 0 0] 25)) (w.heap.size + 1 + 1) #[.int .i64 0, .int .i64 0, .int .i64 0, .string ⟨#[]⟩, .slice none 0 0, .slice none 0 0] 25 := by
    have := Blk.new ((w.alloc (.cells #[.int .i64 n.kind, .int .i64 n.int, .int .i64 n.scale, .string (str n.text), .slice An n.names.length cAn, .slice Ak k.len cAk] 25)).alloc (.cells #[.int .i64 m.kind, .int .i64 m.int, .int .i64 m.scale, .string (str m.text), .slice Bn m.names.length cBn, .slice Bk q.len cBk] 25)) #[.int .i64 0, .int .i64 0, .int .i64 0, .string ⟨#[]⟩, .slice none 0 0, .slice none 0 0] 25
    simpa using this
  have ST0 : Hid (St w [⟨w.heap.size, n, k, An, cAn, Ak, cAk⟩, ⟨w.heap.size + 1, m, q, Bn, cBn, Bk, cBk⟩] (((w.alloc (.cells #[.int .i64 n.kind, .int .i64 n.int, .int .i64 n.scale, .string (str n.text), .slice An n.names.length cAn, .slice Ak k.len cAk] 25)).alloc (.cells #[.int .i64 m.kind, .int .i64 m.int, .int .i64 m.scale, .string (str m.text), .slice Bn m.names.length cBn, .slice Bk q.len cBk] 25)).alloc (.cells #[.int .i64 0, .int .i64 0, .int .i64 0, .string ⟨#[]⟩, .slice none 0 0, .slice none 0 0] 25))) := ST00.step (below_ra _ _)
  have R0 := Lib.hid R00
  clear R00 ST00
  generalize hW0 : ((w.alloc (.cells #[.int .i64 n.kind, .int .i64 n.int, .int .i64 n.scale, .string (str n.text), .slice An n.names.length cAn, .slice Ak k.len cAk] 25)).alloc (.cells #[.int .i64 m.kind, .int .i64 m.int, .int .i64 m.scale, .string (str m.text), .slice Bn m.names.length cBn, .slice Bk q.len cBk] 25)).alloc (.cells #[.int .i64 0, .int .i64 0, .int .i64 0, .string ⟨#[]⟩, .slice none 0 0, .slice none 0 0] 25) = W0 at *
  unfold ncells
  obtain ⟨hn0, rfl⟩ := numB_num hok0 h1
  obtain ⟨hn1, rfl⟩ := numB_num hok1 h2
  have HI0 : Hid (∀ W, Vo W (· < W.heap.size) n .nil (.agg #[.int .i64 n.kind, .int .i64 n.int, .int .i64 n.scale, .string (str n.text), .slice An n.names.length cAn, .slice Ak F.nil.len cAk]) → Calls Tryd.prog 14 #[.agg #[.int .i64 n.kind, .int .i64 n.int, .int .i64 n.scale, .string (str n.text), .slice An n.names.length cAn, .slice Ak F.nil.len cAk]] W (Ret (.bool true) W)) := fun W h => by rw [← h1]; exact is_any n .nil _ W h
  have HI1 : Hid (∀ W, Vo W (· < W.heap.size) m .nil (.agg #[.int .i64 m.kind, .int .i64 m.int, .int .i64 m.scale, .string (str m.text), .slice Bn m.names.length cBn, .slice Bk F.nil.len cBk]) → Calls Tryd.prog 14 #[.agg #[.int .i64 m.kind, .int .i64 m.int, .int .i64 m.scale, .string (str m.text), .slice Bn m.names.length cBn, .slice Bk F.nil.len cBk]] W (Ret (.bool true) W)) := fun W h => by rw [← h2]; exact is_any m .nil _ W h
  have HV : Hid (vans (subR n .nil m .nil) = ansv (leastP (vN n - vN m) 18)) := by show _ = _; rw [subR_num hn0 hn1, ansv_vans]; rfl
  generalize vans (subR n .nil m .nil) = V at *
  have sn := hn0.scale_le
  have sm := hn1.scale_le
  obtain ⟨c, hc⟩ : ∃ c : Int, max n.scale m.scale = c := ⟨_, rfl⟩
  have k1 : n.scale ≤ c := by omega
  have k2 : m.scale ≤ c := by omega
  have k3 : c ≤ 18 := by omega
  obtain ⟨A0, B0, hw0, hl0, hb0⟩ := by_wide (decide (n.int < 0)) n.int.natAbs (10 ^ (c - n.scale).toNat) (by have := hn0.2.2.1.1; have := hn0.2.2.1.2; omega) (pow_le18 (by omega))
  rw [sg_mul] at hw0 hl0
  have HO0 : Hid (∀ w, Calls Tryd.prog 34 #[.int .i64 n.int] w (Ret (.agg #[.int .u64 0, .int .u64 (n.int.natAbs : Int), .bool (decide (n.int < 0))]) w)) := fun w => rof_any n.int hn0.2.2.1 w
  have HT0 : Hid (∀ w, Calls Tryd.prog 41 #[.int .i64 (IntKind.i64.wrap (c - n.scale))] w (Ret (.int .u64 ((10 ^ (c - n.scale).toNat : Nat) : Int)) w)) := by
    show ∀ w, _
    rw [i64w (by omega) (by omega)]
    exact fun w => ten_ret (c - n.scale) (by omega) (by omega) w
  have HB0 := Lib.hid hb0
  clear hb0
  obtain ⟨A1, B1, hw1, hl1, hb1⟩ := by_wide (!decide (m.int < 0)) m.int.natAbs (10 ^ (c - m.scale).toNat) (by have := hn1.2.2.1.1; have := hn1.2.2.1.2; omega) (pow_le18 (by omega))
  rw [sg_not, sg_mul] at hw1 hl1
  have HN1 : Hid (∀ W, Below w.heap.size w W → Calls Tryd.prog 43 #[.agg #[.int .i64 m.kind, .int .i64 m.int, .int .i64 m.scale, .string (str m.text), .slice Bn m.names.length cBn, .slice Bk F.nil.len cBk]] W (Ret (.tuple #[.agg #[.int .u64 0, .int .u64 (m.int.natAbs : Int), .bool (!decide (m.int < 0))], .int .i64 m.scale]) W)) := fun W hb => rneg_any m .nil _ W (hu.upto hb)
  have HT1 : Hid (∀ w, Calls Tryd.prog 41 #[.int .i64 (IntKind.i64.wrap (c - m.scale))] w (Ret (.int .u64 ((10 ^ (c - m.scale).toNat : Nat) : Int)) w)) := by
    show ∀ w, _
    rw [i64w (by omega) (by omega)]
    exact fun w => ten_ret (c - m.scale) (by omega) (by omega) w
  have HB1 := Lib.hid hb1
  clear hb1
  have HP : Hid (∀ w, Calls Tryd.prog 42 #[.agg #[.int .u64 A0, .int .u64 B0, .bool (decide (n.int < 0))], .agg #[.int .u64 A1, .int .u64 B1, .bool (!decide (m.int < 0))]] w (fun e w' => ∃ v, e = .returned (.tuple #[v, .bool true]) ∧ WideIs v (n.int * 10 ^ (c - n.scale).toNat + -(m.int * 10 ^ (c - m.scale).toNat)) ∧ Below w.heap.size w w')) := fun w => radd_any _ _ _ _ hw0 hw1 hl0 hl1 w
  obtain ⟨x0, x1, x2, xs, ee, hform⟩ := ansv_form (leastP (vN n - vN m) 18)
  have HL : Hid (∀ (w : World) (z : Value), WideIs z (n.int * 10 ^ (c - n.scale).toNat + -(m.int * 10 ^ (c - m.scale).toNat)) → Calls Tryd.prog 33 #[z, .int .i64 c] w (Ret (.tuple #[.agg #[.int .i64 x0, .int .i64 x1, .int .i64 x2, .string xs, .slice none 0 0, .slice none 0 0], .int .i64 ee]) w)) := fun w z hz => by
    have h := rleast_any z _ hz c.toNat (by omega) w
    have h2 := leastP_two hn0 hn1 1 (-1) c.toNat (by omega) (by omega) (by omega)
    rw [Int.one_mul, Int.one_mul, Int.neg_mul, Int.neg_mul, Int.one_mul, Int.one_mul, ← Int.sub_eq_add_neg (a := vN n)] at h2
    rw [show (c - n.scale).toNat = c.toNat - n.scale.toNat from by omega, show (c - m.scale).toNat = c.toNat - m.scale.toNat from by omega, h2, show ((c.toNat : Nat) : Int) = c from by omega, hform] at h
    exact h
  rw [hform] at HV
  clear hform hw0 hw1 hl0 hl1
  generalize n.int.natAbs = a0 at *
  generalize decide (n.int < 0) = b0 at *
  generalize 10 ^ (c - n.scale).toNat = p0_ at *
  generalize m.int.natAbs = a1 at *
  generalize (!decide (m.int < 0)) = b1 at *
  generalize 10 ^ (c - m.scale).toNat = p1_ at *
  generalize n.int * 10 ^ (c - n.scale).toNat + -(m.int * 10 ^ (c - m.scale).toNat) = M at *
  have HS := Lib.hid (And.intro sn sm)
  clear hv hu h1 h2 hok0 hok1
  go_enter Tryd.func22, Tryd.ntmps22
  go_upto_region 1 with fail
  clear hW0
  obtain ⟨x0_0, x0_1, x0_2, x0_3, x0_4, x0_5⟩ : _ := ST0.out.six 0 rfl
  go_wp2_with fail
  refine (HI0.out _ (ST0.out.v 0 rfl)).mono ?_
  rintro e' u1 ⟨rfl, c1⟩
  have ST1 : Hid (St w [⟨w.heap.size, n, .nil, An, cAn, Ak, cAk⟩, ⟨w.heap.size + 1, m, .nil, Bn, cBn, Bk, cBk⟩] u1) := ST0.out.step c1
  have R1 : Hid (Blk u1 (w.heap.size + 1 + 1) #[.int .i64 0, .int .i64 0, .int .i64 0, .string ⟨#[]⟩, .slice none 0 0, .slice none 0 0] 25) := R0.out.below c1 R0.out.lt
  clear c1
  clear x0_0 x0_1 x0_2 x0_3 x0_4 x0_5
  obtain ⟨x1_0, x1_1, x1_2, x1_3, x1_4, x1_5⟩ : _ := ST1.out.six 1 rfl
  go_wp2_with fail
  refine (HI1.out _ (ST1.out.v 1 rfl)).mono ?_
  rintro e' u2 ⟨rfl, c2⟩
  have ST2 : Hid (St w [⟨w.heap.size, n, .nil, An, cAn, Ak, cAk⟩, ⟨w.heap.size + 1, m, .nil, Bn, cBn, Bk, cBk⟩] u2) := ST1.out.step c2
  have R2 : Hid (Blk u2 (w.heap.size + 1 + 1) #[.int .i64 0, .int .i64 0, .int .i64 0, .string ⟨#[]⟩, .slice none 0 0, .slice none 0 0] 25) := R1.out.below c2 R1.out.lt
  clear c2
  clear x1_0 x1_1 x1_2 x1_3 x1_4 x1_5
  have FR_u2 : Hid (Fr w (ncells n An cAn Ak F.nil.len cAk).toArray (ncells m Bn cBn Bk F.nil.len cBk).toArray u2) := ⟨ST2.out.1, (ST2.out.box 0 rfl).1, (ST2.out.box 1 rfl).1, R2.out⟩
  clear ST2 R2 HI0 HI1 ST0 R0
  obtain ⟨x0_0, x0_1, x0_2, x0_3, x0_4, x0_5⟩ := FR_u2.out.six1
  obtain ⟨x1_0, x1_1, x1_2, x1_3, x1_4, x1_5⟩ := FR_u2.out.six2
  go_upto_region 4 with fail
  clear hc
  clear x0_0 x0_1 x0_2 x0_3 x0_4 x0_5
  go_upto_region 5 with (go_at_call 43; refine (HN1.out _ FR_u2.out.1).mono ?_; rintro e u7 ⟨rfl, b7⟩)
  clear x1_0 x1_1 x1_2 x1_3 x1_4 x1_5
  obtain ⟨W7, hW7⟩ : ∃ W, u7.alloc (.cells #[.int .u64 0, .int .u64 (a1 : Int), .bool b1] 60) = W := ⟨_, rfl⟩
  rw [hW7]
  have FR_W7 : Hid (Fr w (ncells n An cAn Ak F.nil.len cAk).toArray (ncells m Bn cBn Bk F.nil.len cBk).toArray W7) := by show Fr _ _ _ _; rw [← hW7]; exact (FR_u2.out.step b7).step (below_ra _ _)
  have K7_W7 : Hid (Blk W7 u7.heap.size #[.int .u64 0, .int .u64 (a1 : Int), .bool b1] 60) := by show Blk _ _ _ _; rw [← hW7]; exact Blk.new _ _ _
  have hg7 : w.heap.size + 1 + 1 < u7.heap.size := (FR_u2.out.step b7).lt
  clear hW7 b7 FR_u2
  generalize u7.heap.size = g7 at *
  go_cut [9, 10] (fun s9 s10 wx => ∃ g : Nat, s9 = .pointer (some ⟨g, 0, none⟩) ∧ s10 = .bool true ∧ w.heap.size + 1 + 1 < g ∧ g7 ≠ g ∧ Hid (Fr w (ncells n An cAn Ak F.nil.len cAk).toArray (ncells m Bn cBn Bk F.nil.len cBk).toArray wx) ∧ Hid (Blk wx g #[.int .u64 (A0 : Int), .int .u64 (B0 : Int), .bool b0] 60) ∧ Hid (Blk wx g7 #[.int .u64 0, .int .u64 (a1 : Int), .bool b1] 60))
  case first =>
    have FR_v0 : Hid (Fr w (ncells n An cAn Ak F.nil.len cAk).toArray (ncells m Bn cBn Bk F.nil.len cBk).toArray W7.drew) := FR_W7.out.drew
    have K7_v0 : Hid (Blk W7.drew g7 #[.int .u64 0, .int .u64 (a1 : Int), .bool b1] 60) := K7_W7.out
    have y0i_v0 : W7.drew.cell? ⟨w.heap.size, 1, none⟩ = some (.int .i64 n.int) := FR_v0.out.six1.2.1
    have y0s_v0 : W7.drew.cell? ⟨w.heap.size, 2, none⟩ = some (.int .i64 n.scale) := FR_v0.out.six1.2.2.1
    refine wp_region_held_drew (S := (fun w' => w'.cell? ⟨w.heap.size, 1, none⟩ = some (.int .i64 n.int) ∧ w'.cell? ⟨w.heap.size, 2, none⟩ = some (.int .i64 n.scale))) (by kernel_rfl) (⟨y0i_v0, y0s_v0⟩) (fun hHeld => ?_)
    generalize W7.drew = v0 at *
    refine wpAnyH_take (i := 0) (oi := { dst := Option.some 35, op := Go.Op.fieldAddr 25 (Go.Operand.tmp 2) 1, type := 0, pos := "decimal.go:123", after := #[], guard := Option.none }) (v := ?_) rfl (by kernel_rfl) (by kernel_rfl) (by kernel_rfl) (fun _ _ _ h => h) (Or.inl ⟨by rfl, ?_⟩) (by assumption) ?_
    rotate_left
    · (intro w hSw; (try dsimp only at hSw); go_simp; try with_reducible rfl)
    try simp only [Act.put, List.setIfInBounds_toArray, List.set_cons_zero, List.set_cons_succ]
    refine wpAnyH_take (i := 1) (oi := { dst := Option.some 36, op := Go.Op.load 3 (Go.Operand.tmp 35), type := 3, pos := "decimal.go:123", after := #[{ on := 0, ground := Go.Ground.data }], guard := Option.none }) (v := ?_) rfl (by kernel_rfl) (by kernel_rfl) (by kernel_rfl) (fun _ _ _ h => h) (Or.inl ⟨by rfl, ?_⟩) (by assumption) ?_
    rotate_left
    · (intro w hSw; (try dsimp only at hSw); go_simp; try with_reducible rfl)
    try simp only [Act.put, List.setIfInBounds_toArray, List.set_cons_zero, List.set_cons_succ]
    refine wpAnyH_take (i := 3) (oi := { dst := Option.some 38, op := Go.Op.move (Go.Operand.tmp 6), type := 3, pos := "decimal.go:123", after := #[], guard := Option.none }) (v := ?_) rfl (by kernel_rfl) (by kernel_rfl) (by kernel_rfl) (fun _ _ _ h => h) (Or.inl ⟨by rfl, ?_⟩) (by assumption) ?_
    rotate_left
    · (intro w hSw; (try dsimp only at hSw); go_simp; try with_reducible rfl)
    try simp only [Act.put, List.setIfInBounds_toArray, List.set_cons_zero, List.set_cons_succ]
    refine wpAnyH_take (i := 4) (oi := { dst := Option.some 39, op := Go.Op.fieldAddr 25 (Go.Operand.tmp 2) 2, type := 0, pos := "decimal.go:123", after := #[], guard := Option.none }) (v := ?_) rfl (by kernel_rfl) (by kernel_rfl) (by kernel_rfl) (fun _ _ _ h => h) (Or.inl ⟨by rfl, ?_⟩) (by assumption) ?_
    rotate_left
    · (intro w hSw; (try dsimp only at hSw); go_simp; try with_reducible rfl)
    try simp only [Act.put, List.setIfInBounds_toArray, List.set_cons_zero, List.set_cons_succ]
    refine wpAnyH_take (i := 5) (oi := { dst := Option.some 40, op := Go.Op.load 3 (Go.Operand.tmp 39), type := 3, pos := "decimal.go:123", after := #[{ on := 4, ground := Go.Ground.data }], guard := Option.none }) (v := ?_) rfl (by kernel_rfl) (by kernel_rfl) (by kernel_rfl) (fun _ _ _ h => h) (Or.inl ⟨by rfl, ?_⟩) (by assumption) ?_
    rotate_left
    · (intro w hSw; (try dsimp only at hSw); go_simp; try with_reducible rfl)
    try simp only [Act.put, List.setIfInBounds_toArray, List.set_cons_zero, List.set_cons_succ]
    refine wpAnyH_take (i := 6) (oi := { dst := Option.some 41, op := Go.Op.binOp Go.BinOp.sub 3 (Go.Operand.tmp 38) (Go.Operand.tmp 40) 3, type := 3, pos := "decimal.go:123", after := #[{ on := 3, ground := Go.Ground.data }, { on := 5, ground := Go.Ground.data }], guard := Option.none }) (v := ?_) rfl (by kernel_rfl) (by kernel_rfl) (by kernel_rfl) (fun _ _ _ h => h) (Or.inl ⟨by rfl, ?_⟩) (by assumption) ?_
    rotate_left
    · (intro w hSw; (try dsimp only at hSw); go_simp; try with_reducible rfl)
    try simp only [Act.put, List.setIfInBounds_toArray, List.set_cons_zero, List.set_cons_succ]
    refine wpAnyH_ready (rs := [2, 12]) (by kernel_rfl) (by simp) ?_
    refine AllReadyH.cons (o := { dst := Option.some 37, op := Go.Op.call { callee := Go.Callee.value (Go.Operand.func 34), args := #[Go.Operand.tmp 36], argTypes := #[3] }, type := 60, pos := "decimal.go:123", after := #[{ on := 1, ground := Go.Ground.data }], guard := Option.none }) rfl (fun K hK => ?_) ?_
    go_simp
    refine (HO0.out _).mono ?_
    rintro e v1 ⟨rfl, b_v1⟩
    have FR_v1 : Hid (Fr w (ncells n An cAn Ak F.nil.len cAk).toArray (ncells m Bn cBn Bk F.nil.len cBk).toArray v1) := FR_v0.out.step b_v1
    have K7_v1 : Hid (Blk v1 g7 #[.int .u64 0, .int .u64 (a1 : Int), .bool b1] 60) := K7_v0.out.below b_v1 K7_v0.out.lt
    have y0i_v1 : v1.cell? ⟨w.heap.size, 1, none⟩ = some (.int .i64 n.int) := FR_v1.out.six1.2.1
    have y0s_v1 : v1.cell? ⟨w.heap.size, 2, none⟩ = some (.int .i64 n.scale) := FR_v1.out.six1.2.2.1
    go_wp2_with fail
    refine hK.out _ _ (⟨y0i_v1, y0s_v1⟩) (fun hHeld => ?_)
    clear hK K
    try simp only [Act.put, List.setIfInBounds_toArray, List.set_cons_zero, List.set_cons_succ]
    refine wpAnyH_ready (rs := [7, 12]) (by kernel_rfl) (by simp) ?_
    refine AllReadyH.cons (o := { dst := Option.some 42, op := Go.Op.call { callee := Go.Callee.value (Go.Operand.func 41), args := #[Go.Operand.tmp 41], argTypes := #[3] }, type := 53, pos := "decimal.go:123", after := #[{ on := 6, ground := Go.Ground.data }, { on := 2, ground := Go.Ground.chain }], guard := Option.none }) rfl (fun K hK => ?_) ?_
    go_simp
    refine (HT0.out _).mono ?_
    rintro e v2 ⟨rfl, b_v2⟩
    have FR_v2 : Hid (Fr w (ncells n An cAn Ak F.nil.len cAk).toArray (ncells m Bn cBn Bk F.nil.len cBk).toArray v2) := FR_v1.out.step b_v2
    have K7_v2 : Hid (Blk v2 g7 #[.int .u64 0, .int .u64 (a1 : Int), .bool b1] 60) := K7_v1.out.below b_v2 K7_v1.out.lt
    have y0i_v2 : v2.cell? ⟨w.heap.size, 1, none⟩ = some (.int .i64 n.int) := FR_v2.out.six1.2.1
    have y0s_v2 : v2.cell? ⟨w.heap.size, 2, none⟩ = some (.int .i64 n.scale) := FR_v2.out.six1.2.2.1
    go_wp2_with fail
    refine hK.out _ _ (⟨y0i_v2, y0s_v2⟩) (fun hHeld => ?_)
    clear hK K
    try simp only [Act.put, List.setIfInBounds_toArray, List.set_cons_zero, List.set_cons_succ]
    refine wpAnyH_ready (rs := [8, 12]) (by kernel_rfl) (by simp) ?_
    refine AllReadyH.cons (o := { dst := Option.some 43, op := Go.Op.call { callee := Go.Callee.value (Go.Operand.func 40), args := #[Go.Operand.tmp 37, Go.Operand.tmp 42], argTypes := #[60, 53] }, type := 68, pos := "decimal.go:123", after := #[{ on := 2, ground := Go.Ground.data }, { on := 7, ground := Go.Ground.data }, { on := 7, ground := Go.Ground.chain }], guard := Option.none }) rfl (fun K hK => ?_) ?_
    go_simp
    refine (HB0.out _).mono ?_
    rintro e v3 ⟨rfl, b_v3⟩
    have FR_v3 : Hid (Fr w (ncells n An cAn Ak F.nil.len cAk).toArray (ncells m Bn cBn Bk F.nil.len cBk).toArray v3) := FR_v2.out.step b_v3
    have K7_v3 : Hid (Blk v3 g7 #[.int .u64 0, .int .u64 (a1 : Int), .bool b1] 60) := K7_v2.out.below b_v3 K7_v2.out.lt
    have y0i_v3 : v3.cell? ⟨w.heap.size, 1, none⟩ = some (.int .i64 n.int) := FR_v3.out.six1.2.1
    have y0s_v3 : v3.cell? ⟨w.heap.size, 2, none⟩ = some (.int .i64 n.scale) := FR_v3.out.six1.2.2.1
    go_wp2_with fail
    refine hK.out _ _ (⟨y0i_v3, y0s_v3⟩) (fun hHeld => ?_)
    clear hK K
    try simp only [Act.put, List.setIfInBounds_toArray, List.set_cons_zero, List.set_cons_succ]
    refine wpAnyH_take (i := 9) (oi := { dst := Option.some 34, op := Go.Op.move (Go.Operand.tmp 43), type := 68, pos := "decimal.go:123", after := #[{ on := 8, ground := Go.Ground.data }], guard := Option.none }) (v := ?_) rfl (by kernel_rfl) (by kernel_rfl) (by kernel_rfl) (fun _ _ _ h => h) (Or.inl ⟨by rfl, ?_⟩) (by assumption) ?_
    rotate_left
    · (intro w hSw; (try dsimp only at hSw); go_simp; try with_reducible rfl)
    try simp only [Act.put, List.setIfInBounds_toArray, List.set_cons_zero, List.set_cons_succ]
    refine wpAnyH_take (i := 10) (oi := { dst := Option.some 44, op := Go.Op.extract (Go.Operand.tmp 34) 0, type := 60, pos := "decimal.go:123", after := #[{ on := 9, ground := Go.Ground.data }], guard := Option.none }) (v := ?_) rfl (by kernel_rfl) (by kernel_rfl) (by kernel_rfl) (fun _ _ _ h => h) (Or.inl ⟨by rfl, ?_⟩) (by assumption) ?_
    rotate_left
    · (intro w hSw; (try dsimp only at hSw); go_simp; try with_reducible rfl)
    try simp only [Act.put, List.setIfInBounds_toArray, List.set_cons_zero, List.set_cons_succ]
    refine wpAnyH_take (i := 11) (oi := { dst := Option.some 45, op := Go.Op.extract (Go.Operand.tmp 34) 1, type := 4, pos := "decimal.go:123", after := #[{ on := 9, ground := Go.Ground.data }, { on := 13, ground := Go.Ground.gcOnly Go.Departure.lateStores }], guard := Option.none }) (v := ?_) rfl (by kernel_rfl) (by kernel_rfl) (by kernel_rfl) (fun _ _ _ h => h) (Or.inl ⟨by rfl, ?_⟩) (by assumption) ?_
    rotate_left
    · (intro w hSw; (try dsimp only at hSw); go_simp; try with_reducible rfl)
    try simp only [Act.put, List.setIfInBounds_toArray, List.set_cons_zero, List.set_cons_succ]
    refine wpAnyH_ready (rs := [12]) (by kernel_rfl) (by simp) ?_
    refine AllReadyH.cons (o := { dst := Option.some 9, op := Go.Op.alloc 60, type := 0, pos := "decimal.go:123", after := #[], guard := Option.none }) rfl (fun K hK => ?_) AllReadyH.nil
    go_simp
    obtain ⟨v4, h_v4⟩ : ∃ v, v3.alloc (.cells #[.int .u64 0, .int .u64 0, .bool false] 60) = v := ⟨_, rfl⟩
    rw [h_v4]
    have b_v4 : Below v3.heap.size v3 v4 := by rw [← h_v4]; exact below_ra _ _
    have FR_v4 : Hid (Fr w (ncells n An cAn Ak F.nil.len cAk).toArray (ncells m Bn cBn Bk F.nil.len cBk).toArray v4) := FR_v3.out.step b_v4
    have K7_v4 : Hid (Blk v4 g7 #[.int .u64 0, .int .u64 (a1 : Int), .bool b1] 60) := K7_v3.out.below b_v4 K7_v3.out.lt
    have K_v4 : Hid (Blk v4 v3.heap.size #[.int .u64 0, .int .u64 0, .bool false] 60) := by show Blk _ _ _ _; rw [← h_v4]; exact Blk.new _ _ _
    have hg : w.heap.size + 1 + 1 < v3.heap.size := FR_v3.out.lt
    have ne_K7 : g7 ≠ v3.heap.size := Nat.ne_of_lt K7_v3.out.lt
    have y0i_v4 : v4.cell? ⟨w.heap.size, 1, none⟩ = some (.int .i64 n.int) := FR_v4.out.six1.2.1
    have y0s_v4 : v4.cell? ⟨w.heap.size, 2, none⟩ = some (.int .i64 n.scale) := FR_v4.out.six1.2.2.1
    clear h_v4
    refine hK.out _ _ (⟨y0i_v4, y0s_v4⟩) (fun hHeld => ?_)
    clear hK K
    try simp only [Act.put, List.setIfInBounds_toArray, List.set_cons_zero, List.set_cons_succ]
    refine wpAnyH_ready (rs := [13]) (by kernel_rfl) (by simp) ?_
    refine AllReadyH.cons (o := { dst := Option.none, op := Go.Op.store 60 (Go.Operand.tmp 9) (Go.Operand.tmp 44), type := 0, pos := "decimal.go:123", after := #[{ on := 12, ground := Go.Ground.data }, { on := 10, ground := Go.Ground.data }, { on := 8, ground := Go.Ground.chain }, { on := 0, ground := Go.Ground.phase }, { on := 1, ground := Go.Ground.phase }, { on := 2, ground := Go.Ground.phase }, { on := 3, ground := Go.Ground.phase }, { on := 4, ground := Go.Ground.phase }, { on := 5, ground := Go.Ground.phase }, { on := 6, ground := Go.Ground.phase }, { on := 7, ground := Go.Ground.phase }, { on := 8, ground := Go.Ground.phase }, { on := 9, ground := Go.Ground.phase }, { on := 10, ground := Go.Ground.phase }, { on := 11, ground := Go.Ground.textOnly Go.Departure.lateStores }, { on := 12, ground := Go.Ground.phase }], guard := Option.none }) rfl (fun K hK => ?_) AllReadyH.nil
    have s0 : v4.cell? ⟨v3.heap.size, 0, none⟩ = some (.int .u64 0) := K_v4.out.cell 0
    have s_0 := K_v4.out.free 0
    have s1 : v4.cell? ⟨v3.heap.size, 1, none⟩ = some (.int .u64 0) := K_v4.out.cell 1
    have s_1 := K_v4.out.free 1
    have s2 : v4.cell? ⟨v3.heap.size, 2, none⟩ = some (.bool false) := K_v4.out.cell 2
    have s_2 := K_v4.out.free 2
    go_simp
    obtain ⟨v5, h_v5⟩ : ∃ v, (((v4.setCell ⟨v3.heap.size, 0, none⟩ (.int .u64 (A0 : Int))).setCell ⟨v3.heap.size, 1, none⟩ (.int .u64 (B0 : Int))).setCell ⟨v3.heap.size, 2, none⟩ (.bool b0)) = v := ⟨_, rfl⟩
    rw [h_v5]
    clear s0 s1 s2 s_0 s_1 s_2
    have FR_v5 : Hid (Fr w (ncells n An cAn Ak F.nil.len cAk).toArray (ncells m Bn cBn Bk F.nil.len cBk).toArray v5) := by show Fr _ _ _ _; rw [← h_v5]; exact ((FR_v4.out.set hg 0 _).set hg 1 _).set hg 2 _
    have K7_v5 : Hid (Blk v5 g7 #[.int .u64 0, .int .u64 (a1 : Int), .bool b1] 60) := by show Blk _ _ _ _; rw [← h_v5]; exact (((K7_v4.out.set_other 0 _ ne_K7).set_other 1 _ ne_K7).set_other 2 _ ne_K7)
    have K_v5 : Hid (Blk v5 v3.heap.size #[.int .u64 (A0 : Int), .int .u64 (B0 : Int), .bool b0] 60) := by show Blk _ _ _ _; rw [← h_v5]; exact Blk.three_set K_v4.out
    clear h_v5
    have y0i_v5 : v5.cell? ⟨w.heap.size, 1, none⟩ = some (.int .i64 n.int) := FR_v5.out.six1.2.1
    have y0s_v5 : v5.cell? ⟨w.heap.size, 2, none⟩ = some (.int .i64 n.scale) := FR_v5.out.six1.2.2.1
    have FIN : ∃ g', g' = v3.heap.size := ⟨_, rfl⟩
    refine hK.out _ _ (⟨y0i_v5, y0s_v5⟩) (fun hHeld => ?_)
    clear hK K
    try simp only [Act.put, List.setIfInBounds_toArray, List.set_cons_zero, List.set_cons_succ]
    refine wpAnyH_take (i := 14) (oi := { dst := Option.some 10, op := Go.Op.assign (Go.Operand.tmp 45), type := 4, pos := "decimal.go:123", after := #[{ on := 11, ground := Go.Ground.data }, { on := 13, ground := Go.Ground.chain }, { on := 0, ground := Go.Ground.phase }, { on := 1, ground := Go.Ground.phase }, { on := 2, ground := Go.Ground.phase }, { on := 3, ground := Go.Ground.phase }, { on := 4, ground := Go.Ground.phase }, { on := 5, ground := Go.Ground.phase }, { on := 6, ground := Go.Ground.phase }, { on := 7, ground := Go.Ground.phase }, { on := 8, ground := Go.Ground.phase }, { on := 9, ground := Go.Ground.phase }, { on := 10, ground := Go.Ground.phase }, { on := 11, ground := Go.Ground.phase }, { on := 12, ground := Go.Ground.phase }, { on := 13, ground := Go.Ground.phase }], guard := Option.none }) (v := ?_) rfl (by kernel_rfl) (by kernel_rfl) (by kernel_rfl) (fun _ _ _ h => h) (Or.inl ⟨by rfl, ?_⟩) (by assumption) ?_
    rotate_left
    · (intro w hSw; (try dsimp only at hSw); go_simp; try with_reducible rfl)
    try simp only [Act.put, List.setIfInBounds_toArray, List.set_cons_zero, List.set_cons_succ]
    refine wpAnyH_done (by kernel_rfl) ?_ _
    rotate_left 1
    refine AllReadyH.cons (o := { dst := Option.some 9, op := Go.Op.alloc 60, type := 0, pos := "decimal.go:123", after := #[], guard := Option.none }) rfl (fun K hK => ?_) AllReadyH.nil
    go_simp
    obtain ⟨v6, h_v6⟩ : ∃ v, v2.alloc (.cells #[.int .u64 0, .int .u64 0, .bool false] 60) = v := ⟨_, rfl⟩
    rw [h_v6]
    have b_v6 : Below v2.heap.size v2 v6 := by rw [← h_v6]; exact below_ra _ _
    have FR_v6 : Hid (Fr w (ncells n An cAn Ak F.nil.len cAk).toArray (ncells m Bn cBn Bk F.nil.len cBk).toArray v6) := FR_v2.out.step b_v6
    have K7_v6 : Hid (Blk v6 g7 #[.int .u64 0, .int .u64 (a1 : Int), .bool b1] 60) := K7_v2.out.below b_v6 K7_v2.out.lt
    have K_v6 : Hid (Blk v6 v2.heap.size #[.int .u64 0, .int .u64 0, .bool false] 60) := by show Blk _ _ _ _; rw [← h_v6]; exact Blk.new _ _ _
    have hg : w.heap.size + 1 + 1 < v2.heap.size := FR_v2.out.lt
    have ne_K7 : g7 ≠ v2.heap.size := Nat.ne_of_lt K7_v2.out.lt
    have y0i_v6 : v6.cell? ⟨w.heap.size, 1, none⟩ = some (.int .i64 n.int) := FR_v6.out.six1.2.1
    have y0s_v6 : v6.cell? ⟨w.heap.size, 2, none⟩ = some (.int .i64 n.scale) := FR_v6.out.six1.2.2.1
    clear h_v6
    refine hK.out _ _ (⟨y0i_v6, y0s_v6⟩) (fun hHeld => ?_)
    clear hK K
    try simp only [Act.put, List.setIfInBounds_toArray, List.set_cons_zero, List.set_cons_succ]
    refine wpAnyH_ready (rs := [8]) (by kernel_rfl) (by simp) ?_
    refine AllReadyH.cons (o := { dst := Option.some 43, op := Go.Op.call { callee := Go.Callee.value (Go.Operand.func 40), args := #[Go.Operand.tmp 37, Go.Operand.tmp 42], argTypes := #[60, 53] }, type := 68, pos := "decimal.go:123", after := #[{ on := 2, ground := Go.Ground.data }, { on := 7, ground := Go.Ground.data }, { on := 7, ground := Go.Ground.chain }], guard := Option.none }) rfl (fun K hK => ?_) AllReadyH.nil
    go_simp
    refine (HB0.out _).mono ?_
    rintro e v7 ⟨rfl, b_v7⟩
    have FR_v7 : Hid (Fr w (ncells n An cAn Ak F.nil.len cAk).toArray (ncells m Bn cBn Bk F.nil.len cBk).toArray v7) := FR_v6.out.step b_v7
    have K7_v7 : Hid (Blk v7 g7 #[.int .u64 0, .int .u64 (a1 : Int), .bool b1] 60) := K7_v6.out.below b_v7 K7_v6.out.lt
    have K_v7 : Hid (Blk v7 v2.heap.size #[.int .u64 0, .int .u64 0, .bool false] 60) := K_v6.out.below b_v7 K_v6.out.lt
    have y0i_v7 : v7.cell? ⟨w.heap.size, 1, none⟩ = some (.int .i64 n.int) := FR_v7.out.six1.2.1
    have y0s_v7 : v7.cell? ⟨w.heap.size, 2, none⟩ = some (.int .i64 n.scale) := FR_v7.out.six1.2.2.1
    go_wp2_with fail
    refine hK.out _ _ (⟨y0i_v7, y0s_v7⟩) (fun hHeld => ?_)
    clear hK K
    try simp only [Act.put, List.setIfInBounds_toArray, List.set_cons_zero, List.set_cons_succ]
    refine wpAnyH_take (i := 9) (oi := { dst := Option.some 34, op := Go.Op.move (Go.Operand.tmp 43), type := 68, pos := "decimal.go:123", after := #[{ on := 8, ground := Go.Ground.data }], guard := Option.none }) (v := ?_) rfl (by kernel_rfl) (by kernel_rfl) (by kernel_rfl) (fun _ _ _ h => h) (Or.inl ⟨by rfl, ?_⟩) (by assumption) ?_
    rotate_left
    · (intro w hSw; (try dsimp only at hSw); go_simp; try with_reducible rfl)
    try simp only [Act.put, List.setIfInBounds_toArray, List.set_cons_zero, List.set_cons_succ]
    refine wpAnyH_take (i := 10) (oi := { dst := Option.some 44, op := Go.Op.extract (Go.Operand.tmp 34) 0, type := 60, pos := "decimal.go:123", after := #[{ on := 9, ground := Go.Ground.data }], guard := Option.none }) (v := ?_) rfl (by kernel_rfl) (by kernel_rfl) (by kernel_rfl) (fun _ _ _ h => h) (Or.inl ⟨by rfl, ?_⟩) (by assumption) ?_
    rotate_left
    · (intro w hSw; (try dsimp only at hSw); go_simp; try with_reducible rfl)
    try simp only [Act.put, List.setIfInBounds_toArray, List.set_cons_zero, List.set_cons_succ]
    refine wpAnyH_take (i := 11) (oi := { dst := Option.some 45, op := Go.Op.extract (Go.Operand.tmp 34) 1, type := 4, pos := "decimal.go:123", after := #[{ on := 9, ground := Go.Ground.data }, { on := 13, ground := Go.Ground.gcOnly Go.Departure.lateStores }], guard := Option.none }) (v := ?_) rfl (by kernel_rfl) (by kernel_rfl) (by kernel_rfl) (fun _ _ _ h => h) (Or.inl ⟨by rfl, ?_⟩) (by assumption) ?_
    rotate_left
    · (intro w hSw; (try dsimp only at hSw); go_simp; try with_reducible rfl)
    try simp only [Act.put, List.setIfInBounds_toArray, List.set_cons_zero, List.set_cons_succ]
    refine wpAnyH_ready (rs := [13]) (by kernel_rfl) (by simp) ?_
    refine AllReadyH.cons (o := { dst := Option.none, op := Go.Op.store 60 (Go.Operand.tmp 9) (Go.Operand.tmp 44), type := 0, pos := "decimal.go:123", after := #[{ on := 12, ground := Go.Ground.data }, { on := 10, ground := Go.Ground.data }, { on := 8, ground := Go.Ground.chain }, { on := 0, ground := Go.Ground.phase }, { on := 1, ground := Go.Ground.phase }, { on := 2, ground := Go.Ground.phase }, { on := 3, ground := Go.Ground.phase }, { on := 4, ground := Go.Ground.phase }, { on := 5, ground := Go.Ground.phase }, { on := 6, ground := Go.Ground.phase }, { on := 7, ground := Go.Ground.phase }, { on := 8, ground := Go.Ground.phase }, { on := 9, ground := Go.Ground.phase }, { on := 10, ground := Go.Ground.phase }, { on := 11, ground := Go.Ground.textOnly Go.Departure.lateStores }, { on := 12, ground := Go.Ground.phase }], guard := Option.none }) rfl (fun K hK => ?_) AllReadyH.nil
    have s0 : v7.cell? ⟨v2.heap.size, 0, none⟩ = some (.int .u64 0) := K_v7.out.cell 0
    have s_0 := K_v7.out.free 0
    have s1 : v7.cell? ⟨v2.heap.size, 1, none⟩ = some (.int .u64 0) := K_v7.out.cell 1
    have s_1 := K_v7.out.free 1
    have s2 : v7.cell? ⟨v2.heap.size, 2, none⟩ = some (.bool false) := K_v7.out.cell 2
    have s_2 := K_v7.out.free 2
    go_simp
    obtain ⟨v8, h_v8⟩ : ∃ v, (((v7.setCell ⟨v2.heap.size, 0, none⟩ (.int .u64 (A0 : Int))).setCell ⟨v2.heap.size, 1, none⟩ (.int .u64 (B0 : Int))).setCell ⟨v2.heap.size, 2, none⟩ (.bool b0)) = v := ⟨_, rfl⟩
    rw [h_v8]
    clear s0 s1 s2 s_0 s_1 s_2
    have FR_v8 : Hid (Fr w (ncells n An cAn Ak F.nil.len cAk).toArray (ncells m Bn cBn Bk F.nil.len cBk).toArray v8) := by show Fr _ _ _ _; rw [← h_v8]; exact ((FR_v7.out.set hg 0 _).set hg 1 _).set hg 2 _
    have K7_v8 : Hid (Blk v8 g7 #[.int .u64 0, .int .u64 (a1 : Int), .bool b1] 60) := by show Blk _ _ _ _; rw [← h_v8]; exact (((K7_v7.out.set_other 0 _ ne_K7).set_other 1 _ ne_K7).set_other 2 _ ne_K7)
    have K_v8 : Hid (Blk v8 v2.heap.size #[.int .u64 (A0 : Int), .int .u64 (B0 : Int), .bool b0] 60) := by show Blk _ _ _ _; rw [← h_v8]; exact Blk.three_set K_v7.out
    clear h_v8
    have y0i_v8 : v8.cell? ⟨w.heap.size, 1, none⟩ = some (.int .i64 n.int) := FR_v8.out.six1.2.1
    have y0s_v8 : v8.cell? ⟨w.heap.size, 2, none⟩ = some (.int .i64 n.scale) := FR_v8.out.six1.2.2.1
    have FIN : ∃ g', g' = v2.heap.size := ⟨_, rfl⟩
    refine hK.out _ _ (⟨y0i_v8, y0s_v8⟩) (fun hHeld => ?_)
    clear hK K
    try simp only [Act.put, List.setIfInBounds_toArray, List.set_cons_zero, List.set_cons_succ]
    refine wpAnyH_take (i := 14) (oi := { dst := Option.some 10, op := Go.Op.assign (Go.Operand.tmp 45), type := 4, pos := "decimal.go:123", after := #[{ on := 11, ground := Go.Ground.data }, { on := 13, ground := Go.Ground.chain }, { on := 0, ground := Go.Ground.phase }, { on := 1, ground := Go.Ground.phase }, { on := 2, ground := Go.Ground.phase }, { on := 3, ground := Go.Ground.phase }, { on := 4, ground := Go.Ground.phase }, { on := 5, ground := Go.Ground.phase }, { on := 6, ground := Go.Ground.phase }, { on := 7, ground := Go.Ground.phase }, { on := 8, ground := Go.Ground.phase }, { on := 9, ground := Go.Ground.phase }, { on := 10, ground := Go.Ground.phase }, { on := 11, ground := Go.Ground.phase }, { on := 12, ground := Go.Ground.phase }, { on := 13, ground := Go.Ground.phase }], guard := Option.none }) (v := ?_) rfl (by kernel_rfl) (by kernel_rfl) (by kernel_rfl) (fun _ _ _ h => h) (Or.inl ⟨by rfl, ?_⟩) (by assumption) ?_
    rotate_left
    · (intro w hSw; (try dsimp only at hSw); go_simp; try with_reducible rfl)
    try simp only [Act.put, List.setIfInBounds_toArray, List.set_cons_zero, List.set_cons_succ]
    refine wpAnyH_done (by kernel_rfl) ?_ _
    rotate_left 1
    refine AllReadyH.cons (o := { dst := Option.some 9, op := Go.Op.alloc 60, type := 0, pos := "decimal.go:123", after := #[], guard := Option.none }) rfl (fun K hK => ?_) AllReadyH.nil
    go_simp
    obtain ⟨v9, h_v9⟩ : ∃ v, v1.alloc (.cells #[.int .u64 0, .int .u64 0, .bool false] 60) = v := ⟨_, rfl⟩
    rw [h_v9]
    have b_v9 : Below v1.heap.size v1 v9 := by rw [← h_v9]; exact below_ra _ _
    have FR_v9 : Hid (Fr w (ncells n An cAn Ak F.nil.len cAk).toArray (ncells m Bn cBn Bk F.nil.len cBk).toArray v9) := FR_v1.out.step b_v9
    have K7_v9 : Hid (Blk v9 g7 #[.int .u64 0, .int .u64 (a1 : Int), .bool b1] 60) := K7_v1.out.below b_v9 K7_v1.out.lt
    have K_v9 : Hid (Blk v9 v1.heap.size #[.int .u64 0, .int .u64 0, .bool false] 60) := by show Blk _ _ _ _; rw [← h_v9]; exact Blk.new _ _ _
    have hg : w.heap.size + 1 + 1 < v1.heap.size := FR_v1.out.lt
    have ne_K7 : g7 ≠ v1.heap.size := Nat.ne_of_lt K7_v1.out.lt
    have y0i_v9 : v9.cell? ⟨w.heap.size, 1, none⟩ = some (.int .i64 n.int) := FR_v9.out.six1.2.1
    have y0s_v9 : v9.cell? ⟨w.heap.size, 2, none⟩ = some (.int .i64 n.scale) := FR_v9.out.six1.2.2.1
    clear h_v9
    refine hK.out _ _ (⟨y0i_v9, y0s_v9⟩) (fun hHeld => ?_)
    clear hK K
    try simp only [Act.put, List.setIfInBounds_toArray, List.set_cons_zero, List.set_cons_succ]
    refine wpAnyH_ready (rs := [7]) (by kernel_rfl) (by simp) ?_
    refine AllReadyH.cons (o := { dst := Option.some 42, op := Go.Op.call { callee := Go.Callee.value (Go.Operand.func 41), args := #[Go.Operand.tmp 41], argTypes := #[3] }, type := 53, pos := "decimal.go:123", after := #[{ on := 6, ground := Go.Ground.data }, { on := 2, ground := Go.Ground.chain }], guard := Option.none }) rfl (fun K hK => ?_) AllReadyH.nil
    go_simp
    refine (HT0.out _).mono ?_
    rintro e v10 ⟨rfl, b_v10⟩
    have FR_v10 : Hid (Fr w (ncells n An cAn Ak F.nil.len cAk).toArray (ncells m Bn cBn Bk F.nil.len cBk).toArray v10) := FR_v9.out.step b_v10
    have K7_v10 : Hid (Blk v10 g7 #[.int .u64 0, .int .u64 (a1 : Int), .bool b1] 60) := K7_v9.out.below b_v10 K7_v9.out.lt
    have K_v10 : Hid (Blk v10 v1.heap.size #[.int .u64 0, .int .u64 0, .bool false] 60) := K_v9.out.below b_v10 K_v9.out.lt
    have y0i_v10 : v10.cell? ⟨w.heap.size, 1, none⟩ = some (.int .i64 n.int) := FR_v10.out.six1.2.1
    have y0s_v10 : v10.cell? ⟨w.heap.size, 2, none⟩ = some (.int .i64 n.scale) := FR_v10.out.six1.2.2.1
    go_wp2_with fail
    refine hK.out _ _ (⟨y0i_v10, y0s_v10⟩) (fun hHeld => ?_)
    clear hK K
    try simp only [Act.put, List.setIfInBounds_toArray, List.set_cons_zero, List.set_cons_succ]
    refine wpAnyH_ready (rs := [8]) (by kernel_rfl) (by simp) ?_
    refine AllReadyH.cons (o := { dst := Option.some 43, op := Go.Op.call { callee := Go.Callee.value (Go.Operand.func 40), args := #[Go.Operand.tmp 37, Go.Operand.tmp 42], argTypes := #[60, 53] }, type := 68, pos := "decimal.go:123", after := #[{ on := 2, ground := Go.Ground.data }, { on := 7, ground := Go.Ground.data }, { on := 7, ground := Go.Ground.chain }], guard := Option.none }) rfl (fun K hK => ?_) AllReadyH.nil
    go_simp
    refine (HB0.out _).mono ?_
    rintro e v11 ⟨rfl, b_v11⟩
    have FR_v11 : Hid (Fr w (ncells n An cAn Ak F.nil.len cAk).toArray (ncells m Bn cBn Bk F.nil.len cBk).toArray v11) := FR_v10.out.step b_v11
    have K7_v11 : Hid (Blk v11 g7 #[.int .u64 0, .int .u64 (a1 : Int), .bool b1] 60) := K7_v10.out.below b_v11 K7_v10.out.lt
    have K_v11 : Hid (Blk v11 v1.heap.size #[.int .u64 0, .int .u64 0, .bool false] 60) := K_v10.out.below b_v11 K_v10.out.lt
    have y0i_v11 : v11.cell? ⟨w.heap.size, 1, none⟩ = some (.int .i64 n.int) := FR_v11.out.six1.2.1
    have y0s_v11 : v11.cell? ⟨w.heap.size, 2, none⟩ = some (.int .i64 n.scale) := FR_v11.out.six1.2.2.1
    go_wp2_with fail
    refine hK.out _ _ (⟨y0i_v11, y0s_v11⟩) (fun hHeld => ?_)
    clear hK K
    try simp only [Act.put, List.setIfInBounds_toArray, List.set_cons_zero, List.set_cons_succ]
    refine wpAnyH_take (i := 9) (oi := { dst := Option.some 34, op := Go.Op.move (Go.Operand.tmp 43), type := 68, pos := "decimal.go:123", after := #[{ on := 8, ground := Go.Ground.data }], guard := Option.none }) (v := ?_) rfl (by kernel_rfl) (by kernel_rfl) (by kernel_rfl) (fun _ _ _ h => h) (Or.inl ⟨by rfl, ?_⟩) (by assumption) ?_
    rotate_left
    · (intro w hSw; (try dsimp only at hSw); go_simp; try with_reducible rfl)
    try simp only [Act.put, List.setIfInBounds_toArray, List.set_cons_zero, List.set_cons_succ]
    refine wpAnyH_take (i := 10) (oi := { dst := Option.some 44, op := Go.Op.extract (Go.Operand.tmp 34) 0, type := 60, pos := "decimal.go:123", after := #[{ on := 9, ground := Go.Ground.data }], guard := Option.none }) (v := ?_) rfl (by kernel_rfl) (by kernel_rfl) (by kernel_rfl) (fun _ _ _ h => h) (Or.inl ⟨by rfl, ?_⟩) (by assumption) ?_
    rotate_left
    · (intro w hSw; (try dsimp only at hSw); go_simp; try with_reducible rfl)
    try simp only [Act.put, List.setIfInBounds_toArray, List.set_cons_zero, List.set_cons_succ]
    refine wpAnyH_take (i := 11) (oi := { dst := Option.some 45, op := Go.Op.extract (Go.Operand.tmp 34) 1, type := 4, pos := "decimal.go:123", after := #[{ on := 9, ground := Go.Ground.data }, { on := 13, ground := Go.Ground.gcOnly Go.Departure.lateStores }], guard := Option.none }) (v := ?_) rfl (by kernel_rfl) (by kernel_rfl) (by kernel_rfl) (fun _ _ _ h => h) (Or.inl ⟨by rfl, ?_⟩) (by assumption) ?_
    rotate_left
    · (intro w hSw; (try dsimp only at hSw); go_simp; try with_reducible rfl)
    try simp only [Act.put, List.setIfInBounds_toArray, List.set_cons_zero, List.set_cons_succ]
    refine wpAnyH_ready (rs := [13]) (by kernel_rfl) (by simp) ?_
    refine AllReadyH.cons (o := { dst := Option.none, op := Go.Op.store 60 (Go.Operand.tmp 9) (Go.Operand.tmp 44), type := 0, pos := "decimal.go:123", after := #[{ on := 12, ground := Go.Ground.data }, { on := 10, ground := Go.Ground.data }, { on := 8, ground := Go.Ground.chain }, { on := 0, ground := Go.Ground.phase }, { on := 1, ground := Go.Ground.phase }, { on := 2, ground := Go.Ground.phase }, { on := 3, ground := Go.Ground.phase }, { on := 4, ground := Go.Ground.phase }, { on := 5, ground := Go.Ground.phase }, { on := 6, ground := Go.Ground.phase }, { on := 7, ground := Go.Ground.phase }, { on := 8, ground := Go.Ground.phase }, { on := 9, ground := Go.Ground.phase }, { on := 10, ground := Go.Ground.phase }, { on := 11, ground := Go.Ground.textOnly Go.Departure.lateStores }, { on := 12, ground := Go.Ground.phase }], guard := Option.none }) rfl (fun K hK => ?_) AllReadyH.nil
    have s0 : v11.cell? ⟨v1.heap.size, 0, none⟩ = some (.int .u64 0) := K_v11.out.cell 0
    have s_0 := K_v11.out.free 0
    have s1 : v11.cell? ⟨v1.heap.size, 1, none⟩ = some (.int .u64 0) := K_v11.out.cell 1
    have s_1 := K_v11.out.free 1
    have s2 : v11.cell? ⟨v1.heap.size, 2, none⟩ = some (.bool false) := K_v11.out.cell 2
    have s_2 := K_v11.out.free 2
    go_simp
    obtain ⟨v12, h_v12⟩ : ∃ v, (((v11.setCell ⟨v1.heap.size, 0, none⟩ (.int .u64 (A0 : Int))).setCell ⟨v1.heap.size, 1, none⟩ (.int .u64 (B0 : Int))).setCell ⟨v1.heap.size, 2, none⟩ (.bool b0)) = v := ⟨_, rfl⟩
    rw [h_v12]
    clear s0 s1 s2 s_0 s_1 s_2
    have FR_v12 : Hid (Fr w (ncells n An cAn Ak F.nil.len cAk).toArray (ncells m Bn cBn Bk F.nil.len cBk).toArray v12) := by show Fr _ _ _ _; rw [← h_v12]; exact ((FR_v11.out.set hg 0 _).set hg 1 _).set hg 2 _
    have K7_v12 : Hid (Blk v12 g7 #[.int .u64 0, .int .u64 (a1 : Int), .bool b1] 60) := by show Blk _ _ _ _; rw [← h_v12]; exact (((K7_v11.out.set_other 0 _ ne_K7).set_other 1 _ ne_K7).set_other 2 _ ne_K7)
    have K_v12 : Hid (Blk v12 v1.heap.size #[.int .u64 (A0 : Int), .int .u64 (B0 : Int), .bool b0] 60) := by show Blk _ _ _ _; rw [← h_v12]; exact Blk.three_set K_v11.out
    clear h_v12
    have y0i_v12 : v12.cell? ⟨w.heap.size, 1, none⟩ = some (.int .i64 n.int) := FR_v12.out.six1.2.1
    have y0s_v12 : v12.cell? ⟨w.heap.size, 2, none⟩ = some (.int .i64 n.scale) := FR_v12.out.six1.2.2.1
    have FIN : ∃ g', g' = v1.heap.size := ⟨_, rfl⟩
    refine hK.out _ _ (⟨y0i_v12, y0s_v12⟩) (fun hHeld => ?_)
    clear hK K
    try simp only [Act.put, List.setIfInBounds_toArray, List.set_cons_zero, List.set_cons_succ]
    refine wpAnyH_take (i := 14) (oi := { dst := Option.some 10, op := Go.Op.assign (Go.Operand.tmp 45), type := 4, pos := "decimal.go:123", after := #[{ on := 11, ground := Go.Ground.data }, { on := 13, ground := Go.Ground.chain }, { on := 0, ground := Go.Ground.phase }, { on := 1, ground := Go.Ground.phase }, { on := 2, ground := Go.Ground.phase }, { on := 3, ground := Go.Ground.phase }, { on := 4, ground := Go.Ground.phase }, { on := 5, ground := Go.Ground.phase }, { on := 6, ground := Go.Ground.phase }, { on := 7, ground := Go.Ground.phase }, { on := 8, ground := Go.Ground.phase }, { on := 9, ground := Go.Ground.phase }, { on := 10, ground := Go.Ground.phase }, { on := 11, ground := Go.Ground.phase }, { on := 12, ground := Go.Ground.phase }, { on := 13, ground := Go.Ground.phase }], guard := Option.none }) (v := ?_) rfl (by kernel_rfl) (by kernel_rfl) (by kernel_rfl) (fun _ _ _ h => h) (Or.inl ⟨by rfl, ?_⟩) (by assumption) ?_
    rotate_left
    · (intro w hSw; (try dsimp only at hSw); go_simp; try with_reducible rfl)
    try simp only [Act.put, List.setIfInBounds_toArray, List.set_cons_zero, List.set_cons_succ]
    refine wpAnyH_done (by kernel_rfl) ?_ _
    rotate_left 1
    refine AllReadyH.cons (o := { dst := Option.some 9, op := Go.Op.alloc 60, type := 0, pos := "decimal.go:123", after := #[], guard := Option.none }) rfl (fun K hK => ?_) AllReadyH.nil
    go_simp
    obtain ⟨v13, h_v13⟩ : ∃ v, v0.alloc (.cells #[.int .u64 0, .int .u64 0, .bool false] 60) = v := ⟨_, rfl⟩
    rw [h_v13]
    have b_v13 : Below v0.heap.size v0 v13 := by rw [← h_v13]; exact below_ra _ _
    have FR_v13 : Hid (Fr w (ncells n An cAn Ak F.nil.len cAk).toArray (ncells m Bn cBn Bk F.nil.len cBk).toArray v13) := FR_v0.out.step b_v13
    have K7_v13 : Hid (Blk v13 g7 #[.int .u64 0, .int .u64 (a1 : Int), .bool b1] 60) := K7_v0.out.below b_v13 K7_v0.out.lt
    have K_v13 : Hid (Blk v13 v0.heap.size #[.int .u64 0, .int .u64 0, .bool false] 60) := by show Blk _ _ _ _; rw [← h_v13]; exact Blk.new _ _ _
    have hg : w.heap.size + 1 + 1 < v0.heap.size := FR_v0.out.lt
    have ne_K7 : g7 ≠ v0.heap.size := Nat.ne_of_lt K7_v0.out.lt
    have y0i_v13 : v13.cell? ⟨w.heap.size, 1, none⟩ = some (.int .i64 n.int) := FR_v13.out.six1.2.1
    have y0s_v13 : v13.cell? ⟨w.heap.size, 2, none⟩ = some (.int .i64 n.scale) := FR_v13.out.six1.2.2.1
    clear h_v13
    refine hK.out _ _ (⟨y0i_v13, y0s_v13⟩) (fun hHeld => ?_)
    clear hK K
    try simp only [Act.put, List.setIfInBounds_toArray, List.set_cons_zero, List.set_cons_succ]
    refine wpAnyH_ready (rs := [2]) (by kernel_rfl) (by simp) ?_
    refine AllReadyH.cons (o := { dst := Option.some 37, op := Go.Op.call { callee := Go.Callee.value (Go.Operand.func 34), args := #[Go.Operand.tmp 36], argTypes := #[3] }, type := 60, pos := "decimal.go:123", after := #[{ on := 1, ground := Go.Ground.data }], guard := Option.none }) rfl (fun K hK => ?_) AllReadyH.nil
    go_simp
    refine (HO0.out _).mono ?_
    rintro e v14 ⟨rfl, b_v14⟩
    have FR_v14 : Hid (Fr w (ncells n An cAn Ak F.nil.len cAk).toArray (ncells m Bn cBn Bk F.nil.len cBk).toArray v14) := FR_v13.out.step b_v14
    have K7_v14 : Hid (Blk v14 g7 #[.int .u64 0, .int .u64 (a1 : Int), .bool b1] 60) := K7_v13.out.below b_v14 K7_v13.out.lt
    have K_v14 : Hid (Blk v14 v0.heap.size #[.int .u64 0, .int .u64 0, .bool false] 60) := K_v13.out.below b_v14 K_v13.out.lt
    have y0i_v14 : v14.cell? ⟨w.heap.size, 1, none⟩ = some (.int .i64 n.int) := FR_v14.out.six1.2.1
    have y0s_v14 : v14.cell? ⟨w.heap.size, 2, none⟩ = some (.int .i64 n.scale) := FR_v14.out.six1.2.2.1
    go_wp2_with fail
    refine hK.out _ _ (⟨y0i_v14, y0s_v14⟩) (fun hHeld => ?_)
    clear hK K
    try simp only [Act.put, List.setIfInBounds_toArray, List.set_cons_zero, List.set_cons_succ]
    refine wpAnyH_ready (rs := [7]) (by kernel_rfl) (by simp) ?_
    refine AllReadyH.cons (o := { dst := Option.some 42, op := Go.Op.call { callee := Go.Callee.value (Go.Operand.func 41), args := #[Go.Operand.tmp 41], argTypes := #[3] }, type := 53, pos := "decimal.go:123", after := #[{ on := 6, ground := Go.Ground.data }, { on := 2, ground := Go.Ground.chain }], guard := Option.none }) rfl (fun K hK => ?_) AllReadyH.nil
    go_simp
    refine (HT0.out _).mono ?_
    rintro e v15 ⟨rfl, b_v15⟩
    have FR_v15 : Hid (Fr w (ncells n An cAn Ak F.nil.len cAk).toArray (ncells m Bn cBn Bk F.nil.len cBk).toArray v15) := FR_v14.out.step b_v15
    have K7_v15 : Hid (Blk v15 g7 #[.int .u64 0, .int .u64 (a1 : Int), .bool b1] 60) := K7_v14.out.below b_v15 K7_v14.out.lt
    have K_v15 : Hid (Blk v15 v0.heap.size #[.int .u64 0, .int .u64 0, .bool false] 60) := K_v14.out.below b_v15 K_v14.out.lt
    have y0i_v15 : v15.cell? ⟨w.heap.size, 1, none⟩ = some (.int .i64 n.int) := FR_v15.out.six1.2.1
    have y0s_v15 : v15.cell? ⟨w.heap.size, 2, none⟩ = some (.int .i64 n.scale) := FR_v15.out.six1.2.2.1
    go_wp2_with fail
    refine hK.out _ _ (⟨y0i_v15, y0s_v15⟩) (fun hHeld => ?_)
    clear hK K
    try simp only [Act.put, List.setIfInBounds_toArray, List.set_cons_zero, List.set_cons_succ]
    refine wpAnyH_ready (rs := [8]) (by kernel_rfl) (by simp) ?_
    refine AllReadyH.cons (o := { dst := Option.some 43, op := Go.Op.call { callee := Go.Callee.value (Go.Operand.func 40), args := #[Go.Operand.tmp 37, Go.Operand.tmp 42], argTypes := #[60, 53] }, type := 68, pos := "decimal.go:123", after := #[{ on := 2, ground := Go.Ground.data }, { on := 7, ground := Go.Ground.data }, { on := 7, ground := Go.Ground.chain }], guard := Option.none }) rfl (fun K hK => ?_) AllReadyH.nil
    go_simp
    refine (HB0.out _).mono ?_
    rintro e v16 ⟨rfl, b_v16⟩
    have FR_v16 : Hid (Fr w (ncells n An cAn Ak F.nil.len cAk).toArray (ncells m Bn cBn Bk F.nil.len cBk).toArray v16) := FR_v15.out.step b_v16
    have K7_v16 : Hid (Blk v16 g7 #[.int .u64 0, .int .u64 (a1 : Int), .bool b1] 60) := K7_v15.out.below b_v16 K7_v15.out.lt
    have K_v16 : Hid (Blk v16 v0.heap.size #[.int .u64 0, .int .u64 0, .bool false] 60) := K_v15.out.below b_v16 K_v15.out.lt
    have y0i_v16 : v16.cell? ⟨w.heap.size, 1, none⟩ = some (.int .i64 n.int) := FR_v16.out.six1.2.1
    have y0s_v16 : v16.cell? ⟨w.heap.size, 2, none⟩ = some (.int .i64 n.scale) := FR_v16.out.six1.2.2.1
    go_wp2_with fail
    refine hK.out _ _ (⟨y0i_v16, y0s_v16⟩) (fun hHeld => ?_)
    clear hK K
    try simp only [Act.put, List.setIfInBounds_toArray, List.set_cons_zero, List.set_cons_succ]
    refine wpAnyH_take (i := 9) (oi := { dst := Option.some 34, op := Go.Op.move (Go.Operand.tmp 43), type := 68, pos := "decimal.go:123", after := #[{ on := 8, ground := Go.Ground.data }], guard := Option.none }) (v := ?_) rfl (by kernel_rfl) (by kernel_rfl) (by kernel_rfl) (fun _ _ _ h => h) (Or.inl ⟨by rfl, ?_⟩) (by assumption) ?_
    rotate_left
    · (intro w hSw; (try dsimp only at hSw); go_simp; try with_reducible rfl)
    try simp only [Act.put, List.setIfInBounds_toArray, List.set_cons_zero, List.set_cons_succ]
    refine wpAnyH_take (i := 10) (oi := { dst := Option.some 44, op := Go.Op.extract (Go.Operand.tmp 34) 0, type := 60, pos := "decimal.go:123", after := #[{ on := 9, ground := Go.Ground.data }], guard := Option.none }) (v := ?_) rfl (by kernel_rfl) (by kernel_rfl) (by kernel_rfl) (fun _ _ _ h => h) (Or.inl ⟨by rfl, ?_⟩) (by assumption) ?_
    rotate_left
    · (intro w hSw; (try dsimp only at hSw); go_simp; try with_reducible rfl)
    try simp only [Act.put, List.setIfInBounds_toArray, List.set_cons_zero, List.set_cons_succ]
    refine wpAnyH_take (i := 11) (oi := { dst := Option.some 45, op := Go.Op.extract (Go.Operand.tmp 34) 1, type := 4, pos := "decimal.go:123", after := #[{ on := 9, ground := Go.Ground.data }, { on := 13, ground := Go.Ground.gcOnly Go.Departure.lateStores }], guard := Option.none }) (v := ?_) rfl (by kernel_rfl) (by kernel_rfl) (by kernel_rfl) (fun _ _ _ h => h) (Or.inl ⟨by rfl, ?_⟩) (by assumption) ?_
    rotate_left
    · (intro w hSw; (try dsimp only at hSw); go_simp; try with_reducible rfl)
    try simp only [Act.put, List.setIfInBounds_toArray, List.set_cons_zero, List.set_cons_succ]
    refine wpAnyH_ready (rs := [13]) (by kernel_rfl) (by simp) ?_
    refine AllReadyH.cons (o := { dst := Option.none, op := Go.Op.store 60 (Go.Operand.tmp 9) (Go.Operand.tmp 44), type := 0, pos := "decimal.go:123", after := #[{ on := 12, ground := Go.Ground.data }, { on := 10, ground := Go.Ground.data }, { on := 8, ground := Go.Ground.chain }, { on := 0, ground := Go.Ground.phase }, { on := 1, ground := Go.Ground.phase }, { on := 2, ground := Go.Ground.phase }, { on := 3, ground := Go.Ground.phase }, { on := 4, ground := Go.Ground.phase }, { on := 5, ground := Go.Ground.phase }, { on := 6, ground := Go.Ground.phase }, { on := 7, ground := Go.Ground.phase }, { on := 8, ground := Go.Ground.phase }, { on := 9, ground := Go.Ground.phase }, { on := 10, ground := Go.Ground.phase }, { on := 11, ground := Go.Ground.textOnly Go.Departure.lateStores }, { on := 12, ground := Go.Ground.phase }], guard := Option.none }) rfl (fun K hK => ?_) AllReadyH.nil
    have s0 : v16.cell? ⟨v0.heap.size, 0, none⟩ = some (.int .u64 0) := K_v16.out.cell 0
    have s_0 := K_v16.out.free 0
    have s1 : v16.cell? ⟨v0.heap.size, 1, none⟩ = some (.int .u64 0) := K_v16.out.cell 1
    have s_1 := K_v16.out.free 1
    have s2 : v16.cell? ⟨v0.heap.size, 2, none⟩ = some (.bool false) := K_v16.out.cell 2
    have s_2 := K_v16.out.free 2
    go_simp
    obtain ⟨v17, h_v17⟩ : ∃ v, (((v16.setCell ⟨v0.heap.size, 0, none⟩ (.int .u64 (A0 : Int))).setCell ⟨v0.heap.size, 1, none⟩ (.int .u64 (B0 : Int))).setCell ⟨v0.heap.size, 2, none⟩ (.bool b0)) = v := ⟨_, rfl⟩
    rw [h_v17]
    clear s0 s1 s2 s_0 s_1 s_2
    have FR_v17 : Hid (Fr w (ncells n An cAn Ak F.nil.len cAk).toArray (ncells m Bn cBn Bk F.nil.len cBk).toArray v17) := by show Fr _ _ _ _; rw [← h_v17]; exact ((FR_v16.out.set hg 0 _).set hg 1 _).set hg 2 _
    have K7_v17 : Hid (Blk v17 g7 #[.int .u64 0, .int .u64 (a1 : Int), .bool b1] 60) := by show Blk _ _ _ _; rw [← h_v17]; exact (((K7_v16.out.set_other 0 _ ne_K7).set_other 1 _ ne_K7).set_other 2 _ ne_K7)
    have K_v17 : Hid (Blk v17 v0.heap.size #[.int .u64 (A0 : Int), .int .u64 (B0 : Int), .bool b0] 60) := by show Blk _ _ _ _; rw [← h_v17]; exact Blk.three_set K_v16.out
    clear h_v17
    have y0i_v17 : v17.cell? ⟨w.heap.size, 1, none⟩ = some (.int .i64 n.int) := FR_v17.out.six1.2.1
    have y0s_v17 : v17.cell? ⟨w.heap.size, 2, none⟩ = some (.int .i64 n.scale) := FR_v17.out.six1.2.2.1
    have FIN : ∃ g', g' = v0.heap.size := ⟨_, rfl⟩
    refine hK.out _ _ (⟨y0i_v17, y0s_v17⟩) (fun hHeld => ?_)
    clear hK K
    try simp only [Act.put, List.setIfInBounds_toArray, List.set_cons_zero, List.set_cons_succ]
    refine wpAnyH_take (i := 14) (oi := { dst := Option.some 10, op := Go.Op.assign (Go.Operand.tmp 45), type := 4, pos := "decimal.go:123", after := #[{ on := 11, ground := Go.Ground.data }, { on := 13, ground := Go.Ground.chain }, { on := 0, ground := Go.Ground.phase }, { on := 1, ground := Go.Ground.phase }, { on := 2, ground := Go.Ground.phase }, { on := 3, ground := Go.Ground.phase }, { on := 4, ground := Go.Ground.phase }, { on := 5, ground := Go.Ground.phase }, { on := 6, ground := Go.Ground.phase }, { on := 7, ground := Go.Ground.phase }, { on := 8, ground := Go.Ground.phase }, { on := 9, ground := Go.Ground.phase }, { on := 10, ground := Go.Ground.phase }, { on := 11, ground := Go.Ground.phase }, { on := 12, ground := Go.Ground.phase }, { on := 13, ground := Go.Ground.phase }], guard := Option.none }) (v := ?_) rfl (by kernel_rfl) (by kernel_rfl) (by kernel_rfl) (fun _ _ _ h => h) (Or.inl ⟨by rfl, ?_⟩) (by assumption) ?_
    rotate_left
    · (intro w hSw; (try dsimp only at hSw); go_simp; try with_reducible rfl)
    try simp only [Act.put, List.setIfInBounds_toArray, List.set_cons_zero, List.set_cons_succ]
    refine wpAnyH_done (by kernel_rfl) ?_ _
    all_goals (
      go_wp2_with fail
      go_meet
      exact ⟨_, rfl, rfl, hg, ne_K7, by assumption, by assumption, by assumption⟩)
  case rest =>
    obtain ⟨g9, rfl, rfl, hg9, n79, FR_wc, K9_wc, K7_wc⟩ := hcut
    clear FR_W7 K7_W7
    go_upto_region 6 with fail
    go_cut [11, 12] (fun s11 s12 wx => ∃ g : Nat, s11 = .pointer (some ⟨g, 0, none⟩) ∧ s12 = .bool true ∧ w.heap.size + 1 + 1 < g ∧ g7 ≠ g ∧ g9 ≠ g ∧ Hid (Fr w (ncells n An cAn Ak F.nil.len cAk).toArray (ncells m Bn cBn Bk F.nil.len cBk).toArray wx) ∧ Hid (Blk wx g #[.int .u64 (A1 : Int), .int .u64 (B1 : Int), .bool b1] 60) ∧ Hid (Blk wx g7 #[.int .u64 0, .int .u64 (a1 : Int), .bool b1] 60) ∧ Hid (Blk wx g9 #[.int .u64 (A0 : Int), .int .u64 (B0 : Int), .bool b0] 60))
    case first =>
      have FR_v0 : Hid (Fr w (ncells n An cAn Ak F.nil.len cAk).toArray (ncells m Bn cBn Bk F.nil.len cBk).toArray wc.drew) := FR_wc.out.drew
      have K7_v0 : Hid (Blk wc.drew g7 #[.int .u64 0, .int .u64 (a1 : Int), .bool b1] 60) := K7_wc.out
      have K9_v0 : Hid (Blk wc.drew g9 #[.int .u64 (A0 : Int), .int .u64 (B0 : Int), .bool b0] 60) := K9_wc.out
      have t0_v0 : wc.drew.cell? ⟨g7, 0, none⟩ = some (.int .u64 0) := K7_v0.out.cell 0
      have t1_v0 : wc.drew.cell? ⟨g7, 1, none⟩ = some (.int .u64 (a1 : Int)) := K7_v0.out.cell 1
      have t2_v0 : wc.drew.cell? ⟨g7, 2, none⟩ = some (.bool b1) := K7_v0.out.cell 2
      have y1s_v0 : wc.drew.cell? ⟨w.heap.size + 1, 2, none⟩ = some (.int .i64 m.scale) := FR_v0.out.six2.2.2.1
      refine wp_region_held_drew (S := (fun w' => w'.cell? ⟨g7, 0, none⟩ = some (.int .u64 0) ∧ w'.cell? ⟨g7, 1, none⟩ = some (.int .u64 (a1 : Int)) ∧ w'.cell? ⟨g7, 2, none⟩ = some (.bool b1) ∧ w'.cell? ⟨w.heap.size + 1, 2, none⟩ = some (.int .i64 m.scale))) (by kernel_rfl) (⟨t0_v0, t1_v0, t2_v0, y1s_v0⟩) (fun hHeld => ?_)
      generalize wc.drew = v0 at *
      refine wpAnyH_take (i := 0) (oi := { dst := Option.some 47, op := Go.Op.load 60 (Go.Operand.tmp 7), type := 60, pos := "decimal.go:124", after := #[], guard := Option.none }) (v := ?_) rfl (by kernel_rfl) (by kernel_rfl) (by kernel_rfl) (fun _ _ _ h => h) (Or.inl ⟨by rfl, ?_⟩) (by assumption) ?_
      rotate_left
      · (intro w hSw; (try dsimp only at hSw); go_simp; try with_reducible rfl)
      try simp only [Act.put, List.setIfInBounds_toArray, List.set_cons_zero, List.set_cons_succ]
      refine wpAnyH_take (i := 1) (oi := { dst := Option.some 48, op := Go.Op.move (Go.Operand.tmp 6), type := 3, pos := "decimal.go:124", after := #[], guard := Option.none }) (v := ?_) rfl (by kernel_rfl) (by kernel_rfl) (by kernel_rfl) (fun _ _ _ h => h) (Or.inl ⟨by rfl, ?_⟩) (by assumption) ?_
      rotate_left
      · (intro w hSw; (try dsimp only at hSw); go_simp; try with_reducible rfl)
      try simp only [Act.put, List.setIfInBounds_toArray, List.set_cons_zero, List.set_cons_succ]
      refine wpAnyH_take (i := 2) (oi := { dst := Option.some 49, op := Go.Op.fieldAddr 25 (Go.Operand.tmp 3) 2, type := 0, pos := "decimal.go:124", after := #[], guard := Option.none }) (v := ?_) rfl (by kernel_rfl) (by kernel_rfl) (by kernel_rfl) (fun _ _ _ h => h) (Or.inl ⟨by rfl, ?_⟩) (by assumption) ?_
      rotate_left
      · (intro w hSw; (try dsimp only at hSw); go_simp; try with_reducible rfl)
      try simp only [Act.put, List.setIfInBounds_toArray, List.set_cons_zero, List.set_cons_succ]
      refine wpAnyH_take (i := 3) (oi := { dst := Option.some 50, op := Go.Op.load 3 (Go.Operand.tmp 49), type := 3, pos := "decimal.go:124", after := #[{ on := 2, ground := Go.Ground.data }], guard := Option.none }) (v := ?_) rfl (by kernel_rfl) (by kernel_rfl) (by kernel_rfl) (fun _ _ _ h => h) (Or.inl ⟨by rfl, ?_⟩) (by assumption) ?_
      rotate_left
      · (intro w hSw; (try dsimp only at hSw); go_simp; try with_reducible rfl)
      try simp only [Act.put, List.setIfInBounds_toArray, List.set_cons_zero, List.set_cons_succ]
      refine wpAnyH_take (i := 4) (oi := { dst := Option.some 51, op := Go.Op.binOp Go.BinOp.sub 3 (Go.Operand.tmp 48) (Go.Operand.tmp 50) 3, type := 3, pos := "decimal.go:124", after := #[{ on := 1, ground := Go.Ground.data }, { on := 3, ground := Go.Ground.data }], guard := Option.none }) (v := ?_) rfl (by kernel_rfl) (by kernel_rfl) (by kernel_rfl) (fun _ _ _ h => h) (Or.inl ⟨by rfl, ?_⟩) (by assumption) ?_
      rotate_left
      · (intro w hSw; (try dsimp only at hSw); go_simp; try with_reducible rfl)
      try simp only [Act.put, List.setIfInBounds_toArray, List.set_cons_zero, List.set_cons_succ]
      refine wpAnyH_ready (rs := [5, 10]) (by kernel_rfl) (by simp) ?_
      refine AllReadyH.cons (o := { dst := Option.some 52, op := Go.Op.call { callee := Go.Callee.value (Go.Operand.func 41), args := #[Go.Operand.tmp 51], argTypes := #[3] }, type := 53, pos := "decimal.go:124", after := #[{ on := 4, ground := Go.Ground.data }], guard := Option.none }) rfl (fun K hK => ?_) ?_
      go_simp
      refine (HT1.out _).mono ?_
      rintro e v1 ⟨rfl, b_v1⟩
      have FR_v1 : Hid (Fr w (ncells n An cAn Ak F.nil.len cAk).toArray (ncells m Bn cBn Bk F.nil.len cBk).toArray v1) := FR_v0.out.step b_v1
      have K7_v1 : Hid (Blk v1 g7 #[.int .u64 0, .int .u64 (a1 : Int), .bool b1] 60) := K7_v0.out.below b_v1 K7_v0.out.lt
      have K9_v1 : Hid (Blk v1 g9 #[.int .u64 (A0 : Int), .int .u64 (B0 : Int), .bool b0] 60) := K9_v0.out.below b_v1 K9_v0.out.lt
      have t0_v1 : v1.cell? ⟨g7, 0, none⟩ = some (.int .u64 0) := K7_v1.out.cell 0
      have t1_v1 : v1.cell? ⟨g7, 1, none⟩ = some (.int .u64 (a1 : Int)) := K7_v1.out.cell 1
      have t2_v1 : v1.cell? ⟨g7, 2, none⟩ = some (.bool b1) := K7_v1.out.cell 2
      have y1s_v1 : v1.cell? ⟨w.heap.size + 1, 2, none⟩ = some (.int .i64 m.scale) := FR_v1.out.six2.2.2.1
      go_wp2_with fail
      refine hK.out _ _ (⟨t0_v1, t1_v1, t2_v1, y1s_v1⟩) (fun hHeld => ?_)
      clear hK K
      try simp only [Act.put, List.setIfInBounds_toArray, List.set_cons_zero, List.set_cons_succ]
      refine wpAnyH_ready (rs := [6, 10]) (by kernel_rfl) (by simp) ?_
      refine AllReadyH.cons (o := { dst := Option.some 53, op := Go.Op.call { callee := Go.Callee.value (Go.Operand.func 40), args := #[Go.Operand.tmp 47, Go.Operand.tmp 52], argTypes := #[60, 53] }, type := 68, pos := "decimal.go:124", after := #[{ on := 0, ground := Go.Ground.data }, { on := 5, ground := Go.Ground.data }, { on := 5, ground := Go.Ground.chain }], guard := Option.none }) rfl (fun K hK => ?_) ?_
      go_simp
      refine (HB1.out _).mono ?_
      rintro e v2 ⟨rfl, b_v2⟩
      have FR_v2 : Hid (Fr w (ncells n An cAn Ak F.nil.len cAk).toArray (ncells m Bn cBn Bk F.nil.len cBk).toArray v2) := FR_v1.out.step b_v2
      have K7_v2 : Hid (Blk v2 g7 #[.int .u64 0, .int .u64 (a1 : Int), .bool b1] 60) := K7_v1.out.below b_v2 K7_v1.out.lt
      have K9_v2 : Hid (Blk v2 g9 #[.int .u64 (A0 : Int), .int .u64 (B0 : Int), .bool b0] 60) := K9_v1.out.below b_v2 K9_v1.out.lt
      have t0_v2 : v2.cell? ⟨g7, 0, none⟩ = some (.int .u64 0) := K7_v2.out.cell 0
      have t1_v2 : v2.cell? ⟨g7, 1, none⟩ = some (.int .u64 (a1 : Int)) := K7_v2.out.cell 1
      have t2_v2 : v2.cell? ⟨g7, 2, none⟩ = some (.bool b1) := K7_v2.out.cell 2
      have y1s_v2 : v2.cell? ⟨w.heap.size + 1, 2, none⟩ = some (.int .i64 m.scale) := FR_v2.out.six2.2.2.1
      go_wp2_with fail
      refine hK.out _ _ (⟨t0_v2, t1_v2, t2_v2, y1s_v2⟩) (fun hHeld => ?_)
      clear hK K
      try simp only [Act.put, List.setIfInBounds_toArray, List.set_cons_zero, List.set_cons_succ]
      refine wpAnyH_take (i := 7) (oi := { dst := Option.some 46, op := Go.Op.move (Go.Operand.tmp 53), type := 68, pos := "decimal.go:124", after := #[{ on := 6, ground := Go.Ground.data }], guard := Option.none }) (v := ?_) rfl (by kernel_rfl) (by kernel_rfl) (by kernel_rfl) (fun _ _ _ h => h) (Or.inl ⟨by rfl, ?_⟩) (by assumption) ?_
      rotate_left
      · (intro w hSw; (try dsimp only at hSw); go_simp; try with_reducible rfl)
      try simp only [Act.put, List.setIfInBounds_toArray, List.set_cons_zero, List.set_cons_succ]
      refine wpAnyH_take (i := 8) (oi := { dst := Option.some 54, op := Go.Op.extract (Go.Operand.tmp 46) 0, type := 60, pos := "decimal.go:124", after := #[{ on := 7, ground := Go.Ground.data }], guard := Option.none }) (v := ?_) rfl (by kernel_rfl) (by kernel_rfl) (by kernel_rfl) (fun _ _ _ h => h) (Or.inl ⟨by rfl, ?_⟩) (by assumption) ?_
      rotate_left
      · (intro w hSw; (try dsimp only at hSw); go_simp; try with_reducible rfl)
      try simp only [Act.put, List.setIfInBounds_toArray, List.set_cons_zero, List.set_cons_succ]
      refine wpAnyH_take (i := 9) (oi := { dst := Option.some 55, op := Go.Op.extract (Go.Operand.tmp 46) 1, type := 4, pos := "decimal.go:124", after := #[{ on := 7, ground := Go.Ground.data }, { on := 11, ground := Go.Ground.gcOnly Go.Departure.lateStores }], guard := Option.none }) (v := ?_) rfl (by kernel_rfl) (by kernel_rfl) (by kernel_rfl) (fun _ _ _ h => h) (Or.inl ⟨by rfl, ?_⟩) (by assumption) ?_
      rotate_left
      · (intro w hSw; (try dsimp only at hSw); go_simp; try with_reducible rfl)
      try simp only [Act.put, List.setIfInBounds_toArray, List.set_cons_zero, List.set_cons_succ]
      refine wpAnyH_ready (rs := [10]) (by kernel_rfl) (by simp) ?_
      refine AllReadyH.cons (o := { dst := Option.some 11, op := Go.Op.alloc 60, type := 0, pos := "decimal.go:124", after := #[], guard := Option.none }) rfl (fun K hK => ?_) AllReadyH.nil
      go_simp
      obtain ⟨v3, h_v3⟩ : ∃ v, v2.alloc (.cells #[.int .u64 0, .int .u64 0, .bool false] 60) = v := ⟨_, rfl⟩
      rw [h_v3]
      have b_v3 : Below v2.heap.size v2 v3 := by rw [← h_v3]; exact below_ra _ _
      have FR_v3 : Hid (Fr w (ncells n An cAn Ak F.nil.len cAk).toArray (ncells m Bn cBn Bk F.nil.len cBk).toArray v3) := FR_v2.out.step b_v3
      have K7_v3 : Hid (Blk v3 g7 #[.int .u64 0, .int .u64 (a1 : Int), .bool b1] 60) := K7_v2.out.below b_v3 K7_v2.out.lt
      have K9_v3 : Hid (Blk v3 g9 #[.int .u64 (A0 : Int), .int .u64 (B0 : Int), .bool b0] 60) := K9_v2.out.below b_v3 K9_v2.out.lt
      have K_v3 : Hid (Blk v3 v2.heap.size #[.int .u64 0, .int .u64 0, .bool false] 60) := by show Blk _ _ _ _; rw [← h_v3]; exact Blk.new _ _ _
      have hg : w.heap.size + 1 + 1 < v2.heap.size := FR_v2.out.lt
      have ne_K7 : g7 ≠ v2.heap.size := Nat.ne_of_lt K7_v2.out.lt
      have ne_K9 : g9 ≠ v2.heap.size := Nat.ne_of_lt K9_v2.out.lt
      have t0_v3 : v3.cell? ⟨g7, 0, none⟩ = some (.int .u64 0) := K7_v3.out.cell 0
      have t1_v3 : v3.cell? ⟨g7, 1, none⟩ = some (.int .u64 (a1 : Int)) := K7_v3.out.cell 1
      have t2_v3 : v3.cell? ⟨g7, 2, none⟩ = some (.bool b1) := K7_v3.out.cell 2
      have y1s_v3 : v3.cell? ⟨w.heap.size + 1, 2, none⟩ = some (.int .i64 m.scale) := FR_v3.out.six2.2.2.1
      clear h_v3
      refine hK.out _ _ (⟨t0_v3, t1_v3, t2_v3, y1s_v3⟩) (fun hHeld => ?_)
      clear hK K
      try simp only [Act.put, List.setIfInBounds_toArray, List.set_cons_zero, List.set_cons_succ]
      refine wpAnyH_ready (rs := [11]) (by kernel_rfl) (by simp) ?_
      refine AllReadyH.cons (o := { dst := Option.none, op := Go.Op.store 60 (Go.Operand.tmp 11) (Go.Operand.tmp 54), type := 0, pos := "decimal.go:124", after := #[{ on := 10, ground := Go.Ground.data }, { on := 8, ground := Go.Ground.data }, { on := 6, ground := Go.Ground.chain }, { on := 0, ground := Go.Ground.phase }, { on := 1, ground := Go.Ground.phase }, { on := 2, ground := Go.Ground.phase }, { on := 3, ground := Go.Ground.phase }, { on := 4, ground := Go.Ground.phase }, { on := 5, ground := Go.Ground.phase }, { on := 6, ground := Go.Ground.phase }, { on := 7, ground := Go.Ground.phase }, { on := 8, ground := Go.Ground.phase }, { on := 9, ground := Go.Ground.textOnly Go.Departure.lateStores }, { on := 10, ground := Go.Ground.phase }], guard := Option.none }) rfl (fun K hK => ?_) AllReadyH.nil
      have s0 : v3.cell? ⟨v2.heap.size, 0, none⟩ = some (.int .u64 0) := K_v3.out.cell 0
      have s_0 := K_v3.out.free 0
      have s1 : v3.cell? ⟨v2.heap.size, 1, none⟩ = some (.int .u64 0) := K_v3.out.cell 1
      have s_1 := K_v3.out.free 1
      have s2 : v3.cell? ⟨v2.heap.size, 2, none⟩ = some (.bool false) := K_v3.out.cell 2
      have s_2 := K_v3.out.free 2
      go_simp
      obtain ⟨v4, h_v4⟩ : ∃ v, (((v3.setCell ⟨v2.heap.size, 0, none⟩ (.int .u64 (A1 : Int))).setCell ⟨v2.heap.size, 1, none⟩ (.int .u64 (B1 : Int))).setCell ⟨v2.heap.size, 2, none⟩ (.bool b1)) = v := ⟨_, rfl⟩
      rw [h_v4]
      clear s0 s1 s2 s_0 s_1 s_2
      have FR_v4 : Hid (Fr w (ncells n An cAn Ak F.nil.len cAk).toArray (ncells m Bn cBn Bk F.nil.len cBk).toArray v4) := by show Fr _ _ _ _; rw [← h_v4]; exact ((FR_v3.out.set hg 0 _).set hg 1 _).set hg 2 _
      have K7_v4 : Hid (Blk v4 g7 #[.int .u64 0, .int .u64 (a1 : Int), .bool b1] 60) := by show Blk _ _ _ _; rw [← h_v4]; exact (((K7_v3.out.set_other 0 _ ne_K7).set_other 1 _ ne_K7).set_other 2 _ ne_K7)
      have K9_v4 : Hid (Blk v4 g9 #[.int .u64 (A0 : Int), .int .u64 (B0 : Int), .bool b0] 60) := by show Blk _ _ _ _; rw [← h_v4]; exact (((K9_v3.out.set_other 0 _ ne_K9).set_other 1 _ ne_K9).set_other 2 _ ne_K9)
      have K_v4 : Hid (Blk v4 v2.heap.size #[.int .u64 (A1 : Int), .int .u64 (B1 : Int), .bool b1] 60) := by show Blk _ _ _ _; rw [← h_v4]; exact Blk.three_set K_v3.out
      clear h_v4
      have t0_v4 : v4.cell? ⟨g7, 0, none⟩ = some (.int .u64 0) := K7_v4.out.cell 0
      have t1_v4 : v4.cell? ⟨g7, 1, none⟩ = some (.int .u64 (a1 : Int)) := K7_v4.out.cell 1
      have t2_v4 : v4.cell? ⟨g7, 2, none⟩ = some (.bool b1) := K7_v4.out.cell 2
      have y1s_v4 : v4.cell? ⟨w.heap.size + 1, 2, none⟩ = some (.int .i64 m.scale) := FR_v4.out.six2.2.2.1
      have FIN : ∃ g', g' = v2.heap.size := ⟨_, rfl⟩
      refine hK.out _ _ (⟨t0_v4, t1_v4, t2_v4, y1s_v4⟩) (fun hHeld => ?_)
      clear hK K
      try simp only [Act.put, List.setIfInBounds_toArray, List.set_cons_zero, List.set_cons_succ]
      refine wpAnyH_take (i := 12) (oi := { dst := Option.some 12, op := Go.Op.assign (Go.Operand.tmp 55), type := 4, pos := "decimal.go:124", after := #[{ on := 9, ground := Go.Ground.data }, { on := 11, ground := Go.Ground.chain }, { on := 0, ground := Go.Ground.phase }, { on := 1, ground := Go.Ground.phase }, { on := 2, ground := Go.Ground.phase }, { on := 3, ground := Go.Ground.phase }, { on := 4, ground := Go.Ground.phase }, { on := 5, ground := Go.Ground.phase }, { on := 6, ground := Go.Ground.phase }, { on := 7, ground := Go.Ground.phase }, { on := 8, ground := Go.Ground.phase }, { on := 9, ground := Go.Ground.phase }, { on := 10, ground := Go.Ground.phase }, { on := 11, ground := Go.Ground.phase }], guard := Option.none }) (v := ?_) rfl (by kernel_rfl) (by kernel_rfl) (by kernel_rfl) (fun _ _ _ h => h) (Or.inl ⟨by rfl, ?_⟩) (by assumption) ?_
      rotate_left
      · (intro w hSw; (try dsimp only at hSw); go_simp; try with_reducible rfl)
      try simp only [Act.put, List.setIfInBounds_toArray, List.set_cons_zero, List.set_cons_succ]
      refine wpAnyH_done (by kernel_rfl) ?_ _
      rotate_left 1
      refine AllReadyH.cons (o := { dst := Option.some 11, op := Go.Op.alloc 60, type := 0, pos := "decimal.go:124", after := #[], guard := Option.none }) rfl (fun K hK => ?_) AllReadyH.nil
      go_simp
      obtain ⟨v5, h_v5⟩ : ∃ v, v1.alloc (.cells #[.int .u64 0, .int .u64 0, .bool false] 60) = v := ⟨_, rfl⟩
      rw [h_v5]
      have b_v5 : Below v1.heap.size v1 v5 := by rw [← h_v5]; exact below_ra _ _
      have FR_v5 : Hid (Fr w (ncells n An cAn Ak F.nil.len cAk).toArray (ncells m Bn cBn Bk F.nil.len cBk).toArray v5) := FR_v1.out.step b_v5
      have K7_v5 : Hid (Blk v5 g7 #[.int .u64 0, .int .u64 (a1 : Int), .bool b1] 60) := K7_v1.out.below b_v5 K7_v1.out.lt
      have K9_v5 : Hid (Blk v5 g9 #[.int .u64 (A0 : Int), .int .u64 (B0 : Int), .bool b0] 60) := K9_v1.out.below b_v5 K9_v1.out.lt
      have K_v5 : Hid (Blk v5 v1.heap.size #[.int .u64 0, .int .u64 0, .bool false] 60) := by show Blk _ _ _ _; rw [← h_v5]; exact Blk.new _ _ _
      have hg : w.heap.size + 1 + 1 < v1.heap.size := FR_v1.out.lt
      have ne_K7 : g7 ≠ v1.heap.size := Nat.ne_of_lt K7_v1.out.lt
      have ne_K9 : g9 ≠ v1.heap.size := Nat.ne_of_lt K9_v1.out.lt
      have t0_v5 : v5.cell? ⟨g7, 0, none⟩ = some (.int .u64 0) := K7_v5.out.cell 0
      have t1_v5 : v5.cell? ⟨g7, 1, none⟩ = some (.int .u64 (a1 : Int)) := K7_v5.out.cell 1
      have t2_v5 : v5.cell? ⟨g7, 2, none⟩ = some (.bool b1) := K7_v5.out.cell 2
      have y1s_v5 : v5.cell? ⟨w.heap.size + 1, 2, none⟩ = some (.int .i64 m.scale) := FR_v5.out.six2.2.2.1
      clear h_v5
      refine hK.out _ _ (⟨t0_v5, t1_v5, t2_v5, y1s_v5⟩) (fun hHeld => ?_)
      clear hK K
      try simp only [Act.put, List.setIfInBounds_toArray, List.set_cons_zero, List.set_cons_succ]
      refine wpAnyH_ready (rs := [6]) (by kernel_rfl) (by simp) ?_
      refine AllReadyH.cons (o := { dst := Option.some 53, op := Go.Op.call { callee := Go.Callee.value (Go.Operand.func 40), args := #[Go.Operand.tmp 47, Go.Operand.tmp 52], argTypes := #[60, 53] }, type := 68, pos := "decimal.go:124", after := #[{ on := 0, ground := Go.Ground.data }, { on := 5, ground := Go.Ground.data }, { on := 5, ground := Go.Ground.chain }], guard := Option.none }) rfl (fun K hK => ?_) AllReadyH.nil
      go_simp
      refine (HB1.out _).mono ?_
      rintro e v6 ⟨rfl, b_v6⟩
      have FR_v6 : Hid (Fr w (ncells n An cAn Ak F.nil.len cAk).toArray (ncells m Bn cBn Bk F.nil.len cBk).toArray v6) := FR_v5.out.step b_v6
      have K7_v6 : Hid (Blk v6 g7 #[.int .u64 0, .int .u64 (a1 : Int), .bool b1] 60) := K7_v5.out.below b_v6 K7_v5.out.lt
      have K9_v6 : Hid (Blk v6 g9 #[.int .u64 (A0 : Int), .int .u64 (B0 : Int), .bool b0] 60) := K9_v5.out.below b_v6 K9_v5.out.lt
      have K_v6 : Hid (Blk v6 v1.heap.size #[.int .u64 0, .int .u64 0, .bool false] 60) := K_v5.out.below b_v6 K_v5.out.lt
      have t0_v6 : v6.cell? ⟨g7, 0, none⟩ = some (.int .u64 0) := K7_v6.out.cell 0
      have t1_v6 : v6.cell? ⟨g7, 1, none⟩ = some (.int .u64 (a1 : Int)) := K7_v6.out.cell 1
      have t2_v6 : v6.cell? ⟨g7, 2, none⟩ = some (.bool b1) := K7_v6.out.cell 2
      have y1s_v6 : v6.cell? ⟨w.heap.size + 1, 2, none⟩ = some (.int .i64 m.scale) := FR_v6.out.six2.2.2.1
      go_wp2_with fail
      refine hK.out _ _ (⟨t0_v6, t1_v6, t2_v6, y1s_v6⟩) (fun hHeld => ?_)
      clear hK K
      try simp only [Act.put, List.setIfInBounds_toArray, List.set_cons_zero, List.set_cons_succ]
      refine wpAnyH_take (i := 7) (oi := { dst := Option.some 46, op := Go.Op.move (Go.Operand.tmp 53), type := 68, pos := "decimal.go:124", after := #[{ on := 6, ground := Go.Ground.data }], guard := Option.none }) (v := ?_) rfl (by kernel_rfl) (by kernel_rfl) (by kernel_rfl) (fun _ _ _ h => h) (Or.inl ⟨by rfl, ?_⟩) (by assumption) ?_
      rotate_left
      · (intro w hSw; (try dsimp only at hSw); go_simp; try with_reducible rfl)
      try simp only [Act.put, List.setIfInBounds_toArray, List.set_cons_zero, List.set_cons_succ]
      refine wpAnyH_take (i := 8) (oi := { dst := Option.some 54, op := Go.Op.extract (Go.Operand.tmp 46) 0, type := 60, pos := "decimal.go:124", after := #[{ on := 7, ground := Go.Ground.data }], guard := Option.none }) (v := ?_) rfl (by kernel_rfl) (by kernel_rfl) (by kernel_rfl) (fun _ _ _ h => h) (Or.inl ⟨by rfl, ?_⟩) (by assumption) ?_
      rotate_left
      · (intro w hSw; (try dsimp only at hSw); go_simp; try with_reducible rfl)
      try simp only [Act.put, List.setIfInBounds_toArray, List.set_cons_zero, List.set_cons_succ]
      refine wpAnyH_take (i := 9) (oi := { dst := Option.some 55, op := Go.Op.extract (Go.Operand.tmp 46) 1, type := 4, pos := "decimal.go:124", after := #[{ on := 7, ground := Go.Ground.data }, { on := 11, ground := Go.Ground.gcOnly Go.Departure.lateStores }], guard := Option.none }) (v := ?_) rfl (by kernel_rfl) (by kernel_rfl) (by kernel_rfl) (fun _ _ _ h => h) (Or.inl ⟨by rfl, ?_⟩) (by assumption) ?_
      rotate_left
      · (intro w hSw; (try dsimp only at hSw); go_simp; try with_reducible rfl)
      try simp only [Act.put, List.setIfInBounds_toArray, List.set_cons_zero, List.set_cons_succ]
      refine wpAnyH_ready (rs := [11]) (by kernel_rfl) (by simp) ?_
      refine AllReadyH.cons (o := { dst := Option.none, op := Go.Op.store 60 (Go.Operand.tmp 11) (Go.Operand.tmp 54), type := 0, pos := "decimal.go:124", after := #[{ on := 10, ground := Go.Ground.data }, { on := 8, ground := Go.Ground.data }, { on := 6, ground := Go.Ground.chain }, { on := 0, ground := Go.Ground.phase }, { on := 1, ground := Go.Ground.phase }, { on := 2, ground := Go.Ground.phase }, { on := 3, ground := Go.Ground.phase }, { on := 4, ground := Go.Ground.phase }, { on := 5, ground := Go.Ground.phase }, { on := 6, ground := Go.Ground.phase }, { on := 7, ground := Go.Ground.phase }, { on := 8, ground := Go.Ground.phase }, { on := 9, ground := Go.Ground.textOnly Go.Departure.lateStores }, { on := 10, ground := Go.Ground.phase }], guard := Option.none }) rfl (fun K hK => ?_) AllReadyH.nil
      have s0 : v6.cell? ⟨v1.heap.size, 0, none⟩ = some (.int .u64 0) := K_v6.out.cell 0
      have s_0 := K_v6.out.free 0
      have s1 : v6.cell? ⟨v1.heap.size, 1, none⟩ = some (.int .u64 0) := K_v6.out.cell 1
      have s_1 := K_v6.out.free 1
      have s2 : v6.cell? ⟨v1.heap.size, 2, none⟩ = some (.bool false) := K_v6.out.cell 2
      have s_2 := K_v6.out.free 2
      go_simp
      obtain ⟨v7, h_v7⟩ : ∃ v, (((v6.setCell ⟨v1.heap.size, 0, none⟩ (.int .u64 (A1 : Int))).setCell ⟨v1.heap.size, 1, none⟩ (.int .u64 (B1 : Int))).setCell ⟨v1.heap.size, 2, none⟩ (.bool b1)) = v := ⟨_, rfl⟩
      rw [h_v7]
      clear s0 s1 s2 s_0 s_1 s_2
      have FR_v7 : Hid (Fr w (ncells n An cAn Ak F.nil.len cAk).toArray (ncells m Bn cBn Bk F.nil.len cBk).toArray v7) := by show Fr _ _ _ _; rw [← h_v7]; exact ((FR_v6.out.set hg 0 _).set hg 1 _).set hg 2 _
      have K7_v7 : Hid (Blk v7 g7 #[.int .u64 0, .int .u64 (a1 : Int), .bool b1] 60) := by show Blk _ _ _ _; rw [← h_v7]; exact (((K7_v6.out.set_other 0 _ ne_K7).set_other 1 _ ne_K7).set_other 2 _ ne_K7)
      have K9_v7 : Hid (Blk v7 g9 #[.int .u64 (A0 : Int), .int .u64 (B0 : Int), .bool b0] 60) := by show Blk _ _ _ _; rw [← h_v7]; exact (((K9_v6.out.set_other 0 _ ne_K9).set_other 1 _ ne_K9).set_other 2 _ ne_K9)
      have K_v7 : Hid (Blk v7 v1.heap.size #[.int .u64 (A1 : Int), .int .u64 (B1 : Int), .bool b1] 60) := by show Blk _ _ _ _; rw [← h_v7]; exact Blk.three_set K_v6.out
      clear h_v7
      have t0_v7 : v7.cell? ⟨g7, 0, none⟩ = some (.int .u64 0) := K7_v7.out.cell 0
      have t1_v7 : v7.cell? ⟨g7, 1, none⟩ = some (.int .u64 (a1 : Int)) := K7_v7.out.cell 1
      have t2_v7 : v7.cell? ⟨g7, 2, none⟩ = some (.bool b1) := K7_v7.out.cell 2
      have y1s_v7 : v7.cell? ⟨w.heap.size + 1, 2, none⟩ = some (.int .i64 m.scale) := FR_v7.out.six2.2.2.1
      have FIN : ∃ g', g' = v1.heap.size := ⟨_, rfl⟩
      refine hK.out _ _ (⟨t0_v7, t1_v7, t2_v7, y1s_v7⟩) (fun hHeld => ?_)
      clear hK K
      try simp only [Act.put, List.setIfInBounds_toArray, List.set_cons_zero, List.set_cons_succ]
      refine wpAnyH_take (i := 12) (oi := { dst := Option.some 12, op := Go.Op.assign (Go.Operand.tmp 55), type := 4, pos := "decimal.go:124", after := #[{ on := 9, ground := Go.Ground.data }, { on := 11, ground := Go.Ground.chain }, { on := 0, ground := Go.Ground.phase }, { on := 1, ground := Go.Ground.phase }, { on := 2, ground := Go.Ground.phase }, { on := 3, ground := Go.Ground.phase }, { on := 4, ground := Go.Ground.phase }, { on := 5, ground := Go.Ground.phase }, { on := 6, ground := Go.Ground.phase }, { on := 7, ground := Go.Ground.phase }, { on := 8, ground := Go.Ground.phase }, { on := 9, ground := Go.Ground.phase }, { on := 10, ground := Go.Ground.phase }, { on := 11, ground := Go.Ground.phase }], guard := Option.none }) (v := ?_) rfl (by kernel_rfl) (by kernel_rfl) (by kernel_rfl) (fun _ _ _ h => h) (Or.inl ⟨by rfl, ?_⟩) (by assumption) ?_
      rotate_left
      · (intro w hSw; (try dsimp only at hSw); go_simp; try with_reducible rfl)
      try simp only [Act.put, List.setIfInBounds_toArray, List.set_cons_zero, List.set_cons_succ]
      refine wpAnyH_done (by kernel_rfl) ?_ _
      rotate_left 1
      refine AllReadyH.cons (o := { dst := Option.some 11, op := Go.Op.alloc 60, type := 0, pos := "decimal.go:124", after := #[], guard := Option.none }) rfl (fun K hK => ?_) AllReadyH.nil
      go_simp
      obtain ⟨v8, h_v8⟩ : ∃ v, v0.alloc (.cells #[.int .u64 0, .int .u64 0, .bool false] 60) = v := ⟨_, rfl⟩
      rw [h_v8]
      have b_v8 : Below v0.heap.size v0 v8 := by rw [← h_v8]; exact below_ra _ _
      have FR_v8 : Hid (Fr w (ncells n An cAn Ak F.nil.len cAk).toArray (ncells m Bn cBn Bk F.nil.len cBk).toArray v8) := FR_v0.out.step b_v8
      have K7_v8 : Hid (Blk v8 g7 #[.int .u64 0, .int .u64 (a1 : Int), .bool b1] 60) := K7_v0.out.below b_v8 K7_v0.out.lt
      have K9_v8 : Hid (Blk v8 g9 #[.int .u64 (A0 : Int), .int .u64 (B0 : Int), .bool b0] 60) := K9_v0.out.below b_v8 K9_v0.out.lt
      have K_v8 : Hid (Blk v8 v0.heap.size #[.int .u64 0, .int .u64 0, .bool false] 60) := by show Blk _ _ _ _; rw [← h_v8]; exact Blk.new _ _ _
      have hg : w.heap.size + 1 + 1 < v0.heap.size := FR_v0.out.lt
      have ne_K7 : g7 ≠ v0.heap.size := Nat.ne_of_lt K7_v0.out.lt
      have ne_K9 : g9 ≠ v0.heap.size := Nat.ne_of_lt K9_v0.out.lt
      have t0_v8 : v8.cell? ⟨g7, 0, none⟩ = some (.int .u64 0) := K7_v8.out.cell 0
      have t1_v8 : v8.cell? ⟨g7, 1, none⟩ = some (.int .u64 (a1 : Int)) := K7_v8.out.cell 1
      have t2_v8 : v8.cell? ⟨g7, 2, none⟩ = some (.bool b1) := K7_v8.out.cell 2
      have y1s_v8 : v8.cell? ⟨w.heap.size + 1, 2, none⟩ = some (.int .i64 m.scale) := FR_v8.out.six2.2.2.1
      clear h_v8
      refine hK.out _ _ (⟨t0_v8, t1_v8, t2_v8, y1s_v8⟩) (fun hHeld => ?_)
      clear hK K
      try simp only [Act.put, List.setIfInBounds_toArray, List.set_cons_zero, List.set_cons_succ]
      refine wpAnyH_ready (rs := [5]) (by kernel_rfl) (by simp) ?_
      refine AllReadyH.cons (o := { dst := Option.some 52, op := Go.Op.call { callee := Go.Callee.value (Go.Operand.func 41), args := #[Go.Operand.tmp 51], argTypes := #[3] }, type := 53, pos := "decimal.go:124", after := #[{ on := 4, ground := Go.Ground.data }], guard := Option.none }) rfl (fun K hK => ?_) AllReadyH.nil
      go_simp
      refine (HT1.out _).mono ?_
      rintro e v9 ⟨rfl, b_v9⟩
      have FR_v9 : Hid (Fr w (ncells n An cAn Ak F.nil.len cAk).toArray (ncells m Bn cBn Bk F.nil.len cBk).toArray v9) := FR_v8.out.step b_v9
      have K7_v9 : Hid (Blk v9 g7 #[.int .u64 0, .int .u64 (a1 : Int), .bool b1] 60) := K7_v8.out.below b_v9 K7_v8.out.lt
      have K9_v9 : Hid (Blk v9 g9 #[.int .u64 (A0 : Int), .int .u64 (B0 : Int), .bool b0] 60) := K9_v8.out.below b_v9 K9_v8.out.lt
      have K_v9 : Hid (Blk v9 v0.heap.size #[.int .u64 0, .int .u64 0, .bool false] 60) := K_v8.out.below b_v9 K_v8.out.lt
      have t0_v9 : v9.cell? ⟨g7, 0, none⟩ = some (.int .u64 0) := K7_v9.out.cell 0
      have t1_v9 : v9.cell? ⟨g7, 1, none⟩ = some (.int .u64 (a1 : Int)) := K7_v9.out.cell 1
      have t2_v9 : v9.cell? ⟨g7, 2, none⟩ = some (.bool b1) := K7_v9.out.cell 2
      have y1s_v9 : v9.cell? ⟨w.heap.size + 1, 2, none⟩ = some (.int .i64 m.scale) := FR_v9.out.six2.2.2.1
      go_wp2_with fail
      refine hK.out _ _ (⟨t0_v9, t1_v9, t2_v9, y1s_v9⟩) (fun hHeld => ?_)
      clear hK K
      try simp only [Act.put, List.setIfInBounds_toArray, List.set_cons_zero, List.set_cons_succ]
      refine wpAnyH_ready (rs := [6]) (by kernel_rfl) (by simp) ?_
      refine AllReadyH.cons (o := { dst := Option.some 53, op := Go.Op.call { callee := Go.Callee.value (Go.Operand.func 40), args := #[Go.Operand.tmp 47, Go.Operand.tmp 52], argTypes := #[60, 53] }, type := 68, pos := "decimal.go:124", after := #[{ on := 0, ground := Go.Ground.data }, { on := 5, ground := Go.Ground.data }, { on := 5, ground := Go.Ground.chain }], guard := Option.none }) rfl (fun K hK => ?_) AllReadyH.nil
      go_simp
      refine (HB1.out _).mono ?_
      rintro e v10 ⟨rfl, b_v10⟩
      have FR_v10 : Hid (Fr w (ncells n An cAn Ak F.nil.len cAk).toArray (ncells m Bn cBn Bk F.nil.len cBk).toArray v10) := FR_v9.out.step b_v10
      have K7_v10 : Hid (Blk v10 g7 #[.int .u64 0, .int .u64 (a1 : Int), .bool b1] 60) := K7_v9.out.below b_v10 K7_v9.out.lt
      have K9_v10 : Hid (Blk v10 g9 #[.int .u64 (A0 : Int), .int .u64 (B0 : Int), .bool b0] 60) := K9_v9.out.below b_v10 K9_v9.out.lt
      have K_v10 : Hid (Blk v10 v0.heap.size #[.int .u64 0, .int .u64 0, .bool false] 60) := K_v9.out.below b_v10 K_v9.out.lt
      have t0_v10 : v10.cell? ⟨g7, 0, none⟩ = some (.int .u64 0) := K7_v10.out.cell 0
      have t1_v10 : v10.cell? ⟨g7, 1, none⟩ = some (.int .u64 (a1 : Int)) := K7_v10.out.cell 1
      have t2_v10 : v10.cell? ⟨g7, 2, none⟩ = some (.bool b1) := K7_v10.out.cell 2
      have y1s_v10 : v10.cell? ⟨w.heap.size + 1, 2, none⟩ = some (.int .i64 m.scale) := FR_v10.out.six2.2.2.1
      go_wp2_with fail
      refine hK.out _ _ (⟨t0_v10, t1_v10, t2_v10, y1s_v10⟩) (fun hHeld => ?_)
      clear hK K
      try simp only [Act.put, List.setIfInBounds_toArray, List.set_cons_zero, List.set_cons_succ]
      refine wpAnyH_take (i := 7) (oi := { dst := Option.some 46, op := Go.Op.move (Go.Operand.tmp 53), type := 68, pos := "decimal.go:124", after := #[{ on := 6, ground := Go.Ground.data }], guard := Option.none }) (v := ?_) rfl (by kernel_rfl) (by kernel_rfl) (by kernel_rfl) (fun _ _ _ h => h) (Or.inl ⟨by rfl, ?_⟩) (by assumption) ?_
      rotate_left
      · (intro w hSw; (try dsimp only at hSw); go_simp; try with_reducible rfl)
      try simp only [Act.put, List.setIfInBounds_toArray, List.set_cons_zero, List.set_cons_succ]
      refine wpAnyH_take (i := 8) (oi := { dst := Option.some 54, op := Go.Op.extract (Go.Operand.tmp 46) 0, type := 60, pos := "decimal.go:124", after := #[{ on := 7, ground := Go.Ground.data }], guard := Option.none }) (v := ?_) rfl (by kernel_rfl) (by kernel_rfl) (by kernel_rfl) (fun _ _ _ h => h) (Or.inl ⟨by rfl, ?_⟩) (by assumption) ?_
      rotate_left
      · (intro w hSw; (try dsimp only at hSw); go_simp; try with_reducible rfl)
      try simp only [Act.put, List.setIfInBounds_toArray, List.set_cons_zero, List.set_cons_succ]
      refine wpAnyH_take (i := 9) (oi := { dst := Option.some 55, op := Go.Op.extract (Go.Operand.tmp 46) 1, type := 4, pos := "decimal.go:124", after := #[{ on := 7, ground := Go.Ground.data }, { on := 11, ground := Go.Ground.gcOnly Go.Departure.lateStores }], guard := Option.none }) (v := ?_) rfl (by kernel_rfl) (by kernel_rfl) (by kernel_rfl) (fun _ _ _ h => h) (Or.inl ⟨by rfl, ?_⟩) (by assumption) ?_
      rotate_left
      · (intro w hSw; (try dsimp only at hSw); go_simp; try with_reducible rfl)
      try simp only [Act.put, List.setIfInBounds_toArray, List.set_cons_zero, List.set_cons_succ]
      refine wpAnyH_ready (rs := [11]) (by kernel_rfl) (by simp) ?_
      refine AllReadyH.cons (o := { dst := Option.none, op := Go.Op.store 60 (Go.Operand.tmp 11) (Go.Operand.tmp 54), type := 0, pos := "decimal.go:124", after := #[{ on := 10, ground := Go.Ground.data }, { on := 8, ground := Go.Ground.data }, { on := 6, ground := Go.Ground.chain }, { on := 0, ground := Go.Ground.phase }, { on := 1, ground := Go.Ground.phase }, { on := 2, ground := Go.Ground.phase }, { on := 3, ground := Go.Ground.phase }, { on := 4, ground := Go.Ground.phase }, { on := 5, ground := Go.Ground.phase }, { on := 6, ground := Go.Ground.phase }, { on := 7, ground := Go.Ground.phase }, { on := 8, ground := Go.Ground.phase }, { on := 9, ground := Go.Ground.textOnly Go.Departure.lateStores }, { on := 10, ground := Go.Ground.phase }], guard := Option.none }) rfl (fun K hK => ?_) AllReadyH.nil
      have s0 : v10.cell? ⟨v0.heap.size, 0, none⟩ = some (.int .u64 0) := K_v10.out.cell 0
      have s_0 := K_v10.out.free 0
      have s1 : v10.cell? ⟨v0.heap.size, 1, none⟩ = some (.int .u64 0) := K_v10.out.cell 1
      have s_1 := K_v10.out.free 1
      have s2 : v10.cell? ⟨v0.heap.size, 2, none⟩ = some (.bool false) := K_v10.out.cell 2
      have s_2 := K_v10.out.free 2
      go_simp
      obtain ⟨v11, h_v11⟩ : ∃ v, (((v10.setCell ⟨v0.heap.size, 0, none⟩ (.int .u64 (A1 : Int))).setCell ⟨v0.heap.size, 1, none⟩ (.int .u64 (B1 : Int))).setCell ⟨v0.heap.size, 2, none⟩ (.bool b1)) = v := ⟨_, rfl⟩
      rw [h_v11]
      clear s0 s1 s2 s_0 s_1 s_2
      have FR_v11 : Hid (Fr w (ncells n An cAn Ak F.nil.len cAk).toArray (ncells m Bn cBn Bk F.nil.len cBk).toArray v11) := by show Fr _ _ _ _; rw [← h_v11]; exact ((FR_v10.out.set hg 0 _).set hg 1 _).set hg 2 _
      have K7_v11 : Hid (Blk v11 g7 #[.int .u64 0, .int .u64 (a1 : Int), .bool b1] 60) := by show Blk _ _ _ _; rw [← h_v11]; exact (((K7_v10.out.set_other 0 _ ne_K7).set_other 1 _ ne_K7).set_other 2 _ ne_K7)
      have K9_v11 : Hid (Blk v11 g9 #[.int .u64 (A0 : Int), .int .u64 (B0 : Int), .bool b0] 60) := by show Blk _ _ _ _; rw [← h_v11]; exact (((K9_v10.out.set_other 0 _ ne_K9).set_other 1 _ ne_K9).set_other 2 _ ne_K9)
      have K_v11 : Hid (Blk v11 v0.heap.size #[.int .u64 (A1 : Int), .int .u64 (B1 : Int), .bool b1] 60) := by show Blk _ _ _ _; rw [← h_v11]; exact Blk.three_set K_v10.out
      clear h_v11
      have t0_v11 : v11.cell? ⟨g7, 0, none⟩ = some (.int .u64 0) := K7_v11.out.cell 0
      have t1_v11 : v11.cell? ⟨g7, 1, none⟩ = some (.int .u64 (a1 : Int)) := K7_v11.out.cell 1
      have t2_v11 : v11.cell? ⟨g7, 2, none⟩ = some (.bool b1) := K7_v11.out.cell 2
      have y1s_v11 : v11.cell? ⟨w.heap.size + 1, 2, none⟩ = some (.int .i64 m.scale) := FR_v11.out.six2.2.2.1
      have FIN : ∃ g', g' = v0.heap.size := ⟨_, rfl⟩
      refine hK.out _ _ (⟨t0_v11, t1_v11, t2_v11, y1s_v11⟩) (fun hHeld => ?_)
      clear hK K
      try simp only [Act.put, List.setIfInBounds_toArray, List.set_cons_zero, List.set_cons_succ]
      refine wpAnyH_take (i := 12) (oi := { dst := Option.some 12, op := Go.Op.assign (Go.Operand.tmp 55), type := 4, pos := "decimal.go:124", after := #[{ on := 9, ground := Go.Ground.data }, { on := 11, ground := Go.Ground.chain }, { on := 0, ground := Go.Ground.phase }, { on := 1, ground := Go.Ground.phase }, { on := 2, ground := Go.Ground.phase }, { on := 3, ground := Go.Ground.phase }, { on := 4, ground := Go.Ground.phase }, { on := 5, ground := Go.Ground.phase }, { on := 6, ground := Go.Ground.phase }, { on := 7, ground := Go.Ground.phase }, { on := 8, ground := Go.Ground.phase }, { on := 9, ground := Go.Ground.phase }, { on := 10, ground := Go.Ground.phase }, { on := 11, ground := Go.Ground.phase }], guard := Option.none }) (v := ?_) rfl (by kernel_rfl) (by kernel_rfl) (by kernel_rfl) (fun _ _ _ h => h) (Or.inl ⟨by rfl, ?_⟩) (by assumption) ?_
      rotate_left
      · (intro w hSw; (try dsimp only at hSw); go_simp; try with_reducible rfl)
      try simp only [Act.put, List.setIfInBounds_toArray, List.set_cons_zero, List.set_cons_succ]
      refine wpAnyH_done (by kernel_rfl) ?_ _
      all_goals (
        go_wp2_with fail
        go_meet
        exact ⟨_, rfl, rfl, hg, ne_K7, ne_K9, by assumption, by assumption, by assumption, by assumption⟩)
    case rest =>
      obtain ⟨g11, rfl, rfl, hg11, n711, n911, FR_wd, Kb_wd, K7_wd, Ka_wd⟩ := hcut
      clear FR_wc K7_wc K9_wc K7_wd
      go_upto_region 7 with fail
      have tKa_wd0 : wc.cell? ⟨g9, 0, none⟩ = some (.int .u64 (A0 : Int)) := Ka_wd.out.cell 0
      have tKa_wd1 : wc.cell? ⟨g9, 1, none⟩ = some (.int .u64 (B0 : Int)) := Ka_wd.out.cell 1
      have tKa_wd2 : wc.cell? ⟨g9, 2, none⟩ = some (.bool b0) := Ka_wd.out.cell 2
      have tKb_wd0 : wc.cell? ⟨g11, 0, none⟩ = some (.int .u64 (A1 : Int)) := Kb_wd.out.cell 0
      have tKb_wd1 : wc.cell? ⟨g11, 1, none⟩ = some (.int .u64 (B1 : Int)) := Kb_wd.out.cell 1
      have tKb_wd2 : wc.cell? ⟨g11, 2, none⟩ = some (.bool b1) := Kb_wd.out.cell 2
      go_upto_region 8 with (go_at_call 42; refine (HP.out _).mono ?_; rintro e w6 ⟨z, rfl, hz, b6⟩; obtain ⟨h3, l3, b3, rfl, k4, k5, hM⟩ := hz)
      obtain ⟨W6, hW6⟩ : ∃ W, w6.alloc (.cells #[.int .u64 (h3 : Int), .int .u64 (l3 : Int), .bool b3] 60) = W := ⟨_, rfl⟩
      rw [hW6]
      have FR6 : Hid (Fr w (ncells n An cAn Ak F.nil.len cAk).toArray (ncells m Bn cBn Bk F.nil.len cBk).toArray W6) := by show Fr _ _ _ _; rw [← hW6]; exact (FR_wd.out.step b6).step (below_ra _ _)
      have K11 : Blk W6 w6.heap.size #[.int .u64 (h3 : Int), .int .u64 (l3 : Int), .bool b3] 60 := by rw [← hW6]; exact Blk.new _ _ _
      have z0 : W6.cell? ⟨w6.heap.size, 0, none⟩ = some (.int .u64 (h3 : Int)) := K11.cell 0
      have z1 : W6.cell? ⟨w6.heap.size, 1, none⟩ = some (.int .u64 (l3 : Int)) := K11.cell 1
      have z2 : W6.cell? ⟨w6.heap.size, 2, none⟩ = some (.bool b3) := K11.cell 2
      have HZ := Lib.hid (show WideIs (.agg #[.int .u64 (h3 : Int), .int .u64 (l3 : Int), .bool b3]) M from ⟨h3, l3, b3, rfl, k4, k5, hM⟩)
      clear hW6 K11 b6 k4 k5 hM tKa_wd0 tKa_wd1 tKa_wd2 tKb_wd0 tKb_wd1 tKb_wd2
      go_wp2_with fail
      refine (HL.out _ _ HZ.out).mono ?_
      rintro e w9 ⟨rfl, b9⟩
      have FR9 := Lib.hid (FR6.out.step b9)
      have p0 : w9.cell? ⟨w.heap.size + 1 + 1, 0, none⟩ = some (.int .i64 0) := FR9.out.2.2.2.cell 0
      have q_0 := FR9.out.2.2.2.free 0
      have p1 : w9.cell? ⟨w.heap.size + 1 + 1, 1, none⟩ = some (.int .i64 0) := FR9.out.2.2.2.cell 1
      have q_1 := FR9.out.2.2.2.free 1
      have p2 : w9.cell? ⟨w.heap.size + 1 + 1, 2, none⟩ = some (.int .i64 0) := FR9.out.2.2.2.cell 2
      have q_2 := FR9.out.2.2.2.free 2
      have p3 : w9.cell? ⟨w.heap.size + 1 + 1, 3, none⟩ = some (.string ⟨#[]⟩) := FR9.out.2.2.2.cell 3
      have q_3 := FR9.out.2.2.2.free 3
      have p4 : w9.cell? ⟨w.heap.size + 1 + 1, 4, none⟩ = some (.slice none 0 0) := FR9.out.2.2.2.cell 4
      have q_4 := FR9.out.2.2.2.free 4
      have p5 : w9.cell? ⟨w.heap.size + 1 + 1, 5, none⟩ = some (.slice none 0 0) := FR9.out.2.2.2.cell 5
      have q_5 := FR9.out.2.2.2.free 5
      clear b9
      go_wp2_with fail
      exact ret6 Tryd.results22 rfl rfl FR9.out.2.2.2 (by omega) FR9.out.1 HV.out
theorem rsub6_any (n : Nd) (k : F) (m : Nd) (q : F) (v u : Value) (w : World) (hv : Vo w (· < w.heap.size) n k v) (hu : Vo w (· < w.heap.size) m q u) :
    Calls Tryd.prog 22 #[v, u] w (Ret (vans (subR n k m q)) w) := by
  cases h1 : numB n k with
  | false =>
    rw [show subR n k m q = (zN, 11) from by unfold subR; rw [h1]; rfl]
    exact rsub6_0 n k m q v u w hv hu h1
  | true =>
    cases h2 : numB m q with
    | false =>
      rw [show subR n k m q = (zN, 11) from by unfold subR; rw [h1, h2]; rfl]
      exact rsub6_1 n k m q v u w hv hu h1 h2
    | true => exact rsub6_c n k m q v u w hv hu h1 h2

end Go.Proofs.YtfcbcbpnlnkpcaaDoor

/- scrivenerref6.Mul. (Printed by gen/drmul.py.) -/
import Derived.Test.YtfcbcbpnlnkpcaaDoorQRFr
namespace Go.Proofs.YtfcbcbpnlnkpcaaDoor
set_option linter.all false
open Go.RowKit

set_option maxRecDepth 100000 in
set_option maxHeartbeats 12800000 in
theorem rmul6_0 (n : Nd) (k : F) (m : Nd) (q : F) (v : Value) (u : Value) (w : World) (hv : Vo w (· < w.heap.size) n k v) (hu : Vo w (· < w.heap.size) m q u) (h1 : numB n k = false) :
    Calls Tryd.prog 23 #[v, u] w (Ret (vans (zN, 11)) w) := by
  obtain ⟨An, cAn, Ak, cAk, rfl, hok0, _, _, _, _⟩ := id hv
  obtain ⟨Bn, cBn, Bk, cBk, rfl, hok1, _, _, _, _⟩ := id hu
  have ST00 : St w [⟨w.heap.size, n, k, An, cAn, Ak, cAk⟩, ⟨w.heap.size + 1, m, q, Bn, cBn, Bk, cBk⟩] ((w.alloc (.cells #[.int .i64 n.kind, .int .i64 n.int, .int .i64 n.scale, .string (str n.text), .slice An n.names.length cAn, .slice Ak k.len cAk] 25)).alloc (.cells #[.int .i64 m.kind, .int .i64 m.int, .int .i64 m.scale, .string (str m.text), .slice Bn m.names.length cBn, .slice Bk q.len cBk] 25)) := by
    have := (St.box_new (St.box_new (St.nil w) hv) hu)
    simpa [ncells, Nat.add_assoc] using this
  have R00 : Blk (((w.alloc (.cells #[.int .i64 n.kind, .int .i64 n.int, .int .i64 n.scale, .string (str n.text), .slice An n.names.length cAn, .slice Ak k.len cAk] 25)).alloc (.cells #[.int .i64 m.kind, .int .i64 m.int, .int .i64 m.scale, .string (str m.text), .slice Bn m.names.length cBn, .slice Bk q.len cBk] 25)).alloc (.cells #[.int .i64 0, .int .i64 0, .int .i64 0, .string ⟨#[]⟩, .slice none 0 0, .slice none 0 0] 25)) (w.heap.size + 1 + 1) #[.int .i64 0, .int .i64 0, .int .i64 0, .string ⟨#[]⟩, .slice none 0 0, .slice none 0 0] 25 := by
    have := Blk.new ((w.alloc (.cells #[.int .i64 n.kind, .int .i64 n.int, .int .i64 n.scale, .string (str n.text), .slice An n.names.length cAn, .slice Ak k.len cAk] 25)).alloc (.cells #[.int .i64 m.kind, .int .i64 m.int, .int .i64 m.scale, .string (str m.text), .slice Bn m.names.length cBn, .slice Bk q.len cBk] 25)) #[.int .i64 0, .int .i64 0, .int .i64 0, .string ⟨#[]⟩, .slice none 0 0, .slice none 0 0] 25
    simpa using this
  have ST0 : Hid (St w [⟨w.heap.size, n, k, An, cAn, Ak, cAk⟩, ⟨w.heap.size + 1, m, q, Bn, cBn, Bk, cBk⟩] (((w.alloc (.cells #[.int .i64 n.kind, .int .i64 n.int, .int .i64 n.scale, .string (str n.text), .slice An n.names.length cAn, .slice Ak k.len cAk] 25)).alloc (.cells #[.int .i64 m.kind, .int .i64 m.int, .int .i64 m.scale, .string (str m.text), .slice Bn m.names.length cBn, .slice Bk q.len cBk] 25)).alloc (.cells #[.int .i64 0, .int .i64 0, .int .i64 0, .string ⟨#[]⟩, .slice none 0 0, .slice none 0 0] 25))) := ST00.step (below_ra _ _)
  have R0 := Lib.hid R00
  clear R00 ST00
  generalize hW0 : ((w.alloc (.cells #[.int .i64 n.kind, .int .i64 n.int, .int .i64 n.scale, .string (str n.text), .slice An n.names.length cAn, .slice Ak k.len cAk] 25)).alloc (.cells #[.int .i64 m.kind, .int .i64 m.int, .int .i64 m.scale, .string (str m.text), .slice Bn m.names.length cBn, .slice Bk q.len cBk] 25)).alloc (.cells #[.int .i64 0, .int .i64 0, .int .i64 0, .string ⟨#[]⟩, .slice none 0 0, .slice none 0 0] 25) = W0 at *
  unfold ncells
  have HI0 : Hid (∀ W, Vo W (· < W.heap.size) n k (.agg #[.int .i64 n.kind, .int .i64 n.int, .int .i64 n.scale, .string (str n.text), .slice An n.names.length cAn, .slice Ak k.len cAk]) → Calls Tryd.prog 14 #[.agg #[.int .i64 n.kind, .int .i64 n.int, .int .i64 n.scale, .string (str n.text), .slice An n.names.length cAn, .slice Ak k.len cAk]] W (Ret (.bool (numB n k)) W)) := fun W h => is_any n k _ W h
  have HI1 : Hid (∀ W, Vo W (· < W.heap.size) m q (.agg #[.int .i64 m.kind, .int .i64 m.int, .int .i64 m.scale, .string (str m.text), .slice Bn m.names.length cBn, .slice Bk q.len cBk]) → Calls Tryd.prog 14 #[.agg #[.int .i64 m.kind, .int .i64 m.int, .int .i64 m.scale, .string (str m.text), .slice Bn m.names.length cBn, .slice Bk q.len cBk]] W (Ret (.bool (numB m q)) W)) := fun W h => is_any m q _ W h
  rw [h1] at HI0
  clear hv hu h1
  go_enter Tryd.func23, Tryd.ntmps23
  go_upto_region 1 with fail
  clear hW0
  obtain ⟨x0_0, x0_1, x0_2, x0_3, x0_4, x0_5⟩ : _ := ST0.out.six 0 rfl
  go_wp2_with fail
  refine (HI0.out _ (ST0.out.v 0 rfl)).mono ?_
  rintro e' u1 ⟨rfl, c1⟩
  have ST1 : Hid (St w [⟨w.heap.size, n, k, An, cAn, Ak, cAk⟩, ⟨w.heap.size + 1, m, q, Bn, cBn, Bk, cBk⟩] u1) := ST0.out.step c1
  have R1 : Hid (Blk u1 (w.heap.size + 1 + 1) #[.int .i64 0, .int .i64 0, .int .i64 0, .string ⟨#[]⟩, .slice none 0 0, .slice none 0 0] 25) := R0.out.below c1 R0.out.lt
  clear c1
  clear x0_0 x0_1 x0_2 x0_3 x0_4 x0_5
  have p0 : u1.cell? ⟨w.heap.size + 1 + 1, 0, none⟩ = some (.int .i64 0) := R1.out.cell 0
  have q_0 := R1.out.free 0
  have p1 : u1.cell? ⟨w.heap.size + 1 + 1, 1, none⟩ = some (.int .i64 0) := R1.out.cell 1
  have q_1 := R1.out.free 1
  have p2 : u1.cell? ⟨w.heap.size + 1 + 1, 2, none⟩ = some (.int .i64 0) := R1.out.cell 2
  have q_2 := R1.out.free 2
  have p3 : u1.cell? ⟨w.heap.size + 1 + 1, 3, none⟩ = some (.string ⟨#[]⟩) := R1.out.cell 3
  have q_3 := R1.out.free 3
  have p4 : u1.cell? ⟨w.heap.size + 1 + 1, 4, none⟩ = some (.slice none 0 0) := R1.out.cell 4
  have q_4 := R1.out.free 4
  have p5 : u1.cell? ⟨w.heap.size + 1 + 1, 5, none⟩ = some (.slice none 0 0) := R1.out.cell 5
  have q_5 := R1.out.free 5
  go_wp2_with fail
  exact ret6 Tryd.results23 rfl rfl R1.out (by omega) ST1.out.1 rfl
set_option maxRecDepth 100000 in
set_option maxHeartbeats 12800000 in
theorem rmul6_1 (n : Nd) (k : F) (m : Nd) (q : F) (v : Value) (u : Value) (w : World) (hv : Vo w (· < w.heap.size) n k v) (hu : Vo w (· < w.heap.size) m q u) (h1 : numB n k = true) (h2 : numB m q = false) :
    Calls Tryd.prog 23 #[v, u] w (Ret (vans (zN, 11)) w) := by
  obtain ⟨An, cAn, Ak, cAk, rfl, hok0, _, _, _, _⟩ := id hv
  obtain ⟨Bn, cBn, Bk, cBk, rfl, hok1, _, _, _, _⟩ := id hu
  have ST00 : St w [⟨w.heap.size, n, k, An, cAn, Ak, cAk⟩, ⟨w.heap.size + 1, m, q, Bn, cBn, Bk, cBk⟩] ((w.alloc (.cells #[.int .i64 n.kind, .int .i64 n.int, .int .i64 n.scale, .string (str n.text), .slice An n.names.length cAn, .slice Ak k.len cAk] 25)).alloc (.cells #[.int .i64 m.kind, .int .i64 m.int, .int .i64 m.scale, .string (str m.text), .slice Bn m.names.length cBn, .slice Bk q.len cBk] 25)) := by
    have := (St.box_new (St.box_new (St.nil w) hv) hu)
    simpa [ncells, Nat.add_assoc] using this
  have R00 : Blk (((w.alloc (.cells #[.int .i64 n.kind, .int .i64 n.int, .int .i64 n.scale, .string (str n.text), .slice An n.names.length cAn, .slice Ak k.len cAk] 25)).alloc (.cells #[.int .i64 m.kind, .int .i64 m.int, .int .i64 m.scale, .string (str m.text), .slice Bn m.names.length cBn, .slice Bk q.len cBk] 25)).alloc (.cells #[.int .i64 0, .int .i64 0, .int .i64 0, .string ⟨#[]⟩, .slice none 0 0, .slice none 0 0] 25)) (w.heap.size + 1 + 1) #[.int .i64 0, .int .i64 0, .int .i64 0, .string ⟨#[]⟩, .slice none 0 0, .slice none 0 0] 25 := by
    have := Blk.new ((w.alloc (.cells #[.int .i64 n.kind, .int .i64 n.int, .int .i64 n.scale, .string (str n.text), .slice An n.names.length cAn, .slice Ak k.len cAk] 25)).alloc (.cells #[.int .i64 m.kind, .int .i64 m.int, .int .i64 m.scale, .string (str m.text), .slice Bn m.names.length cBn, .slice Bk q.len cBk] 25)) #[.int .i64 0, .int .i64 0, .int .i64 0, .string ⟨#[]⟩, .slice none 0 0, .slice none 0 0] 25
    simpa using this
  have ST0 : Hid (St w [⟨w.heap.size, n, k, An, cAn, Ak, cAk⟩, ⟨w.heap.size + 1, m, q, Bn, cBn, Bk, cBk⟩] (((w.alloc (.cells #[.int .i64 n.kind, .int .i64 n.int, .int .i64 n.scale, .string (str n.text), .slice An n.names.length cAn, .slice Ak k.len cAk] 25)).alloc (.cells #[.int .i64 m.kind, .int .i64 m.int, .int .i64 m.scale, .string (str m.text), .slice Bn m.names.length cBn, .slice Bk q.len cBk] 25)).alloc (.cells #[.int .i64 0, .int .i64 0, .int .i64 0, .string ⟨#[]⟩, .slice none 0 0, .slice none 0 0] 25))) := ST00.step (below_ra _ _)
  have R0 := Lib.hid R00
  clear R00 ST00
  generalize hW0 : ((w.alloc (.cells #[.int .i64 n.kind, .int .i64 n.int, .int .i64 n.scale, .string (str n.text), .slice An n.names.length cAn, .slice Ak k.len cAk] 25)).alloc (.cells #[.int .i64 m.kind, .int .i64 m.int, .int .i64 m.scale, .string (str m.text), .slice Bn m.names.length cBn, .slice Bk q.len cBk] 25)).alloc (.cells #[.int .i64 0, .int .i64 0, .int .i64 0, .string ⟨#[]⟩, .slice none 0 0, .slice none 0 0] 25) = W0 at *
  unfold ncells
  have HI0 : Hid (∀ W, Vo W (· < W.heap.size) n k (.agg #[.int .i64 n.kind, .int .i64 n.int, .int .i64 n.scale, .string (str n.text), .slice An n.names.length cAn, .slice Ak k.len cAk]) → Calls Tryd.prog 14 #[.agg #[.int .i64 n.kind, .int .i64 n.int, .int .i64 n.scale, .string (str n.text), .slice An n.names.length cAn, .slice Ak k.len cAk]] W (Ret (.bool (numB n k)) W)) := fun W h => is_any n k _ W h
  have HI1 : Hid (∀ W, Vo W (· < W.heap.size) m q (.agg #[.int .i64 m.kind, .int .i64 m.int, .int .i64 m.scale, .string (str m.text), .slice Bn m.names.length cBn, .slice Bk q.len cBk]) → Calls Tryd.prog 14 #[.agg #[.int .i64 m.kind, .int .i64 m.int, .int .i64 m.scale, .string (str m.text), .slice Bn m.names.length cBn, .slice Bk q.len cBk]] W (Ret (.bool (numB m q)) W)) := fun W h => is_any m q _ W h
  rw [h1] at HI0
  rw [h2] at HI1
  clear hv hu h1 h2
  go_enter Tryd.func23, Tryd.ntmps23
  go_upto_region 1 with fail
  clear hW0
  obtain ⟨x0_0, x0_1, x0_2, x0_3, x0_4, x0_5⟩ : _ := ST0.out.six 0 rfl
  go_wp2_with fail
  refine (HI0.out _ (ST0.out.v 0 rfl)).mono ?_
  rintro e' u1 ⟨rfl, c1⟩
  have ST1 : Hid (St w [⟨w.heap.size, n, k, An, cAn, Ak, cAk⟩, ⟨w.heap.size + 1, m, q, Bn, cBn, Bk, cBk⟩] u1) := ST0.out.step c1
  have R1 : Hid (Blk u1 (w.heap.size + 1 + 1) #[.int .i64 0, .int .i64 0, .int .i64 0, .string ⟨#[]⟩, .slice none 0 0, .slice none 0 0] 25) := R0.out.below c1 R0.out.lt
  clear c1
  clear x0_0 x0_1 x0_2 x0_3 x0_4 x0_5
  obtain ⟨x1_0, x1_1, x1_2, x1_3, x1_4, x1_5⟩ : _ := ST1.out.six 1 rfl
  go_wp2_with fail
  refine (HI1.out _ (ST1.out.v 1 rfl)).mono ?_
  rintro e' u2 ⟨rfl, c2⟩
  have ST2 : Hid (St w [⟨w.heap.size, n, k, An, cAn, Ak, cAk⟩, ⟨w.heap.size + 1, m, q, Bn, cBn, Bk, cBk⟩] u2) := ST1.out.step c2
  have R2 : Hid (Blk u2 (w.heap.size + 1 + 1) #[.int .i64 0, .int .i64 0, .int .i64 0, .string ⟨#[]⟩, .slice none 0 0, .slice none 0 0] 25) := R1.out.below c2 R1.out.lt
  clear c2
  clear x1_0 x1_1 x1_2 x1_3 x1_4 x1_5
  have p0 : u2.cell? ⟨w.heap.size + 1 + 1, 0, none⟩ = some (.int .i64 0) := R2.out.cell 0
  have q_0 := R2.out.free 0
  have p1 : u2.cell? ⟨w.heap.size + 1 + 1, 1, none⟩ = some (.int .i64 0) := R2.out.cell 1
  have q_1 := R2.out.free 1
  have p2 : u2.cell? ⟨w.heap.size + 1 + 1, 2, none⟩ = some (.int .i64 0) := R2.out.cell 2
  have q_2 := R2.out.free 2
  have p3 : u2.cell? ⟨w.heap.size + 1 + 1, 3, none⟩ = some (.string ⟨#[]⟩) := R2.out.cell 3
  have q_3 := R2.out.free 3
  have p4 : u2.cell? ⟨w.heap.size + 1 + 1, 4, none⟩ = some (.slice none 0 0) := R2.out.cell 4
  have q_4 := R2.out.free 4
  have p5 : u2.cell? ⟨w.heap.size + 1 + 1, 5, none⟩ = some (.slice none 0 0) := R2.out.cell 5
  have q_5 := R2.out.free 5
  go_wp2_with fail
  exact ret6 Tryd.results23 rfl rfl R2.out (by omega) ST2.out.1 rfl
set_option maxRecDepth 100000 in
set_option maxHeartbeats 12800000 in
theorem rmul6_c (n : Nd) (k : F) (m : Nd) (q : F) (v : Value) (u : Value) (w : World) (hv : Vo w (· < w.heap.size) n k v) (hu : Vo w (· < w.heap.size) m q u) (h1 : numB n k = true) (h2 : numB m q = true) :
    Calls Tryd.prog 23 #[v, u] w (Ret (vans (mulR n k m q)) w) := by
  obtain ⟨An, cAn, Ak, cAk, rfl, hok0, _, _, _, _⟩ := id hv
  obtain ⟨Bn, cBn, Bk, cBk, rfl, hok1, _, _, _, _⟩ := id hu
  have ST00 : St w [⟨w.heap.size, n, k, An, cAn, Ak, cAk⟩, ⟨w.heap.size + 1, m, q, Bn, cBn, Bk, cBk⟩] ((w.alloc (.cells #[.int .i64 n.kind, .int .i64 n.int, .int .i64 n.scale, .string (str n.text), .slice An n.names.length cAn, .slice Ak k.len cAk] 25)).alloc (.cells #[.int .i64 m.kind, .int .i64 m.int, .int .i64 m.scale, .string (str m.text), .slice Bn m.names.length cBn, .slice Bk q.len cBk] 25)) := by
    have := (St.box_new (St.box_new (St.nil w) hv) hu)
    simpa [ncells, Nat.add_assoc] using this
  have R00 : Blk (((w.alloc (.cells #[.int .i64 n.kind, .int .i64 n.int, .int .i64 n.scale, .string (str n.text), .slice An n.names.length cAn, .slice Ak k.len cAk] 25)).alloc (.cells #[.int .i64 m.kind, .int .i64 m.int, .int .i64 m.scale, .string (str m.text), .slice Bn m.names.length cBn, .slice Bk q.len cBk] 25)).alloc (.cells #[.int .i64 0, .int .i64 0, .int .i64 0, .string ⟨#[]⟩, .slice none 0 0, .slice none 0 0] 25)) (w.heap.size + 1 + 1) #[.int .i64 0, .int .i64 0, .int .i64 0, .string ⟨#[]⟩, .slice none 0 0, .slice none 0 0] 25 := by
    have := Blk.new ((w.alloc (.cells #[.int .i64 n.kind, .int .i64 n.int, .int .i64 n.scale, .string (str n.text), .slice An n.names.length cAn, .slice Ak k.len cAk] 25)).alloc (.cells #[.int .i64 m.kind, .int .i64 m.int, .int .i64 m.scale, .string (str m.text), .slice Bn m.names.length cBn, .slice Bk q.len cBk] 25)) #[.int .i64 0, .int .i64 0, .int .i64 0, .string ⟨#[]⟩, .slice none 0 0, .slice none 0 0] 25
    simpa using this
  have ST0 : Hid (St w [⟨w.heap.size, n, k, An, cAn, Ak, cAk⟩, ⟨w.heap.size + 1, m, q, Bn, cBn, Bk, cBk⟩] (((w.alloc (.cells #[.int .i64 n.kind, .int .i64 n.int, .int .i64 n.scale, .string (str n.text), .slice An n.names.length cAn, .slice Ak k.len cAk] 25)).alloc (.cells #[.int .i64 m.kind, .int .i64 m.int, .int .i64 m.scale, .string (str m.text), .slice Bn m.names.length cBn, .slice Bk q.len cBk] 25)).alloc (.cells #[.int .i64 0, .int .i64 0, .int .i64 0, .string ⟨#[]⟩, .slice none 0 0, .slice none 0 0] 25))) := ST00.step (below_ra _ _)
  have R0 := Lib.hid R00
  clear R00 ST00
  generalize hW0 : ((w.alloc (.cells #[.int .i64 n.kind, .int .i64 n.int, .int .i64 n.scale, .string (str n.text), .slice An n.names.length cAn, .slice Ak k.len cAk] 25)).alloc (.cells #[.int .i64 m.kind, .int .i64 m.int, .int .i64 m.scale, .string (str m.text), .slice Bn m.names.length cBn, .slice Bk q.len cBk] 25)).alloc (.cells #[.int .i64 0, .int .i64 0, .int .i64 0, .string ⟨#[]⟩, .slice none 0 0, .slice none 0 0] 25) = W0 at *
  unfold ncells
  obtain ⟨hn0, rfl⟩ := numB_num hok0 h1
  obtain ⟨hn1, rfl⟩ := numB_num hok1 h2
  have HI0 : Hid (∀ W, Vo W (· < W.heap.size) n .nil (.agg #[.int .i64 n.kind, .int .i64 n.int, .int .i64 n.scale, .string (str n.text), .slice An n.names.length cAn, .slice Ak F.nil.len cAk]) → Calls Tryd.prog 14 #[.agg #[.int .i64 n.kind, .int .i64 n.int, .int .i64 n.scale, .string (str n.text), .slice An n.names.length cAn, .slice Ak F.nil.len cAk]] W (Ret (.bool true) W)) := fun W h => by rw [← h1]; exact is_any n .nil _ W h
  have HI1 : Hid (∀ W, Vo W (· < W.heap.size) m .nil (.agg #[.int .i64 m.kind, .int .i64 m.int, .int .i64 m.scale, .string (str m.text), .slice Bn m.names.length cBn, .slice Bk F.nil.len cBk]) → Calls Tryd.prog 14 #[.agg #[.int .i64 m.kind, .int .i64 m.int, .int .i64 m.scale, .string (str m.text), .slice Bn m.names.length cBn, .slice Bk F.nil.len cBk]] W (Ret (.bool true) W)) := fun W h => by rw [← h2]; exact is_any m .nil _ W h
  have HV : Hid (vans (mulR n .nil m .nil) = ansv (leastP (vN n * vN m) 36)) := by show _ = _; rw [mulR_num hn0 hn1, ansv_vans]; rfl
  generalize vans (mulR n .nil m .nil) = V at *
  have sn := hn0.scale_le
  have sm := hn1.scale_le
  have ha : n.int.natAbs < 18446744073709551616 := by have := hn0.2.2.1.1; have := hn0.2.2.1.2; omega
  have hb : m.int.natAbs < 18446744073709551616 := by have := hn1.2.2.1.1; have := hn1.2.2.1.2; omega
  obtain ⟨A0, hA0⟩ : ∃ A : Nat, A = n.int.natAbs * m.int.natAbs / 18446744073709551616 := ⟨_, rfl⟩
  obtain ⟨B0, hB0⟩ : ∃ A : Nat, A = n.int.natAbs * m.int.natAbs % 18446744073709551616 := ⟨_, rfl⟩
  have HO0 : Hid (∀ w, Calls Tryd.prog 34 #[.int .i64 n.int] w (Ret (.agg #[.int .u64 0, .int .u64 (n.int.natAbs : Int), .bool (decide (n.int < 0))]) w)) := fun w => rof_any n.int hn0.2.2.1 w
  have HAB : Hid (∀ w, Calls Tryd.prog 44 #[.int .i64 m.int] w (Ret (.int .u64 (m.int.natAbs : Int)) w)) := fun w => abs_ret m.int hn1.2.2.1 w
  have HB0 : Hid (∀ w, Calls Tryd.prog 40 #[.agg #[.int .u64 0, .int .u64 (n.int.natAbs : Int), .bool (decide (n.int < 0))], .int .u64 (m.int.natAbs : Int)] w (Ret (.tuple #[.agg #[.int .u64 (A0 : Int), .int .u64 (B0 : Int), .bool (decide (n.int < 0))], .bool true]) w)) := fun w => by rw [hA0, hB0]; exact by_any _ _ _ ha hb w
  have HW : Hid (WideIs (.agg #[.int .u64 (A0 : Int), .int .u64 (B0 : Int), .bool (!(decide (n.int < 0) == decide (m.int < 0)))]) (n.int * m.int)) := ⟨A0, B0, _, rfl, by
    rw [hA0]; exact Nat.div_lt_of_lt_mul (Nat.mul_lt_mul'' ha hb), by rw [hB0]; exact Nat.mod_lt _ (by decide), by
    rw [← sg_two, hA0, hB0]
    show sg (!(decide (n.int < 0) == decide (m.int < 0))) _ = _
    congr 1
    omega⟩
  obtain ⟨x0, x1, x2, xs, ee, hform⟩ := ansv_form (leastP (vN n * vN m) 36)
  have HL : Hid (∀ (w : World) (z : Value), WideIs z (n.int * m.int) → Calls Tryd.prog 33 #[z, .int .i64 (n.scale + m.scale)] w (Ret (.tuple #[.agg #[.int .i64 x0, .int .i64 x1, .int .i64 x2, .string xs, .slice none 0 0, .slice none 0 0], .int .i64 ee]) w)) := fun w z hz => by
    have h := rleast_any z _ hz (n.scale.toNat + m.scale.toNat) (by omega) w
    rw [leastP_mul hn0 hn1, show ((n.scale.toNat + m.scale.toNat : Nat) : Int) = n.scale + m.scale from by omega, hform] at h
    exact h
  rw [hform] at HV
  clear hform hA0 hB0 ha hb
  generalize n.int.natAbs = a0 at *
  generalize m.int.natAbs = a1 at *
  have HS := Lib.hid (And.intro sn sm)
  clear hv hu h1 h2 hok0 hok1
  go_enter Tryd.func23, Tryd.ntmps23
  go_upto_region 1 with fail
  clear hW0
  obtain ⟨x0_0, x0_1, x0_2, x0_3, x0_4, x0_5⟩ : _ := ST0.out.six 0 rfl
  go_wp2_with fail
  refine (HI0.out _ (ST0.out.v 0 rfl)).mono ?_
  rintro e' u1 ⟨rfl, c1⟩
  have ST1 : Hid (St w [⟨w.heap.size, n, .nil, An, cAn, Ak, cAk⟩, ⟨w.heap.size + 1, m, .nil, Bn, cBn, Bk, cBk⟩] u1) := ST0.out.step c1
  have R1 : Hid (Blk u1 (w.heap.size + 1 + 1) #[.int .i64 0, .int .i64 0, .int .i64 0, .string ⟨#[]⟩, .slice none 0 0, .slice none 0 0] 25) := R0.out.below c1 R0.out.lt
  clear c1
  clear x0_0 x0_1 x0_2 x0_3 x0_4 x0_5
  obtain ⟨x1_0, x1_1, x1_2, x1_3, x1_4, x1_5⟩ : _ := ST1.out.six 1 rfl
  go_wp2_with fail
  refine (HI1.out _ (ST1.out.v 1 rfl)).mono ?_
  rintro e' u2 ⟨rfl, c2⟩
  have ST2 : Hid (St w [⟨w.heap.size, n, .nil, An, cAn, Ak, cAk⟩, ⟨w.heap.size + 1, m, .nil, Bn, cBn, Bk, cBk⟩] u2) := ST1.out.step c2
  have R2 : Hid (Blk u2 (w.heap.size + 1 + 1) #[.int .i64 0, .int .i64 0, .int .i64 0, .string ⟨#[]⟩, .slice none 0 0, .slice none 0 0] 25) := R1.out.below c2 R1.out.lt
  clear c2
  clear x1_0 x1_1 x1_2 x1_3 x1_4 x1_5
  have FR_u2 : Hid (Fr w (ncells n An cAn Ak F.nil.len cAk).toArray (ncells m Bn cBn Bk F.nil.len cBk).toArray u2) := ⟨ST2.out.1, (ST2.out.box 0 rfl).1, (ST2.out.box 1 rfl).1, R2.out⟩
  clear ST2 R2 HI0 HI1 ST0 R0
  go_upto_region 3 with fail
  go_cut [6, 7] (fun s6 s7 wx => ∃ g : Nat, s6 = .pointer (some ⟨g, 0, none⟩) ∧ s7 = .bool true ∧ w.heap.size + 1 + 1 < g ∧ Hid (Fr w (ncells n An cAn Ak F.nil.len cAk).toArray (ncells m Bn cBn Bk F.nil.len cBk).toArray wx) ∧ Hid (Blk wx g #[.int .u64 (A0 : Int), .int .u64 (B0 : Int), .bool (decide (n.int < 0))] 60))
  case first =>
    have FR_v0 : Hid (Fr w (ncells n An cAn Ak F.nil.len cAk).toArray (ncells m Bn cBn Bk F.nil.len cBk).toArray u2.drew) := FR_u2.out.drew
    have y0i_v0 : u2.drew.cell? ⟨w.heap.size, 1, none⟩ = some (.int .i64 n.int) := FR_v0.out.six1.2.1
    have y1i_v0 : u2.drew.cell? ⟨w.heap.size + 1, 1, none⟩ = some (.int .i64 m.int) := FR_v0.out.six2.2.1
    refine wp_region_held_drew (S := (fun w' => w'.cell? ⟨w.heap.size, 1, none⟩ = some (.int .i64 n.int) ∧ w'.cell? ⟨w.heap.size + 1, 1, none⟩ = some (.int .i64 m.int))) (by kernel_rfl) (⟨y0i_v0, y1i_v0⟩) (fun hHeld => ?_)
    generalize u2.drew = v0 at *
    refine wpAnyH_take (i := 0) (oi := { dst := Option.some 18, op := Go.Op.fieldAddr 25 (Go.Operand.tmp 2) 1, type := 0, pos := "decimal.go:137", after := #[], guard := Option.none }) (v := ?_) rfl (by kernel_rfl) (by kernel_rfl) (by kernel_rfl) (fun _ _ _ h => h) (Or.inl ⟨by rfl, ?_⟩) (by assumption) ?_
    rotate_left
    · (intro w hSw; (try dsimp only at hSw); go_simp; try with_reducible rfl)
    try simp only [Act.put, List.setIfInBounds_toArray, List.set_cons_zero, List.set_cons_succ]
    refine wpAnyH_take (i := 1) (oi := { dst := Option.some 19, op := Go.Op.load 3 (Go.Operand.tmp 18), type := 3, pos := "decimal.go:137", after := #[{ on := 0, ground := Go.Ground.data }], guard := Option.none }) (v := ?_) rfl (by kernel_rfl) (by kernel_rfl) (by kernel_rfl) (fun _ _ _ h => h) (Or.inl ⟨by rfl, ?_⟩) (by assumption) ?_
    rotate_left
    · (intro w hSw; (try dsimp only at hSw); go_simp; try with_reducible rfl)
    try simp only [Act.put, List.setIfInBounds_toArray, List.set_cons_zero, List.set_cons_succ]
    refine wpAnyH_take (i := 3) (oi := { dst := Option.some 21, op := Go.Op.fieldAddr 25 (Go.Operand.tmp 3) 1, type := 0, pos := "decimal.go:137", after := #[], guard := Option.none }) (v := ?_) rfl (by kernel_rfl) (by kernel_rfl) (by kernel_rfl) (fun _ _ _ h => h) (Or.inl ⟨by rfl, ?_⟩) (by assumption) ?_
    rotate_left
    · (intro w hSw; (try dsimp only at hSw); go_simp; try with_reducible rfl)
    try simp only [Act.put, List.setIfInBounds_toArray, List.set_cons_zero, List.set_cons_succ]
    refine wpAnyH_take (i := 4) (oi := { dst := Option.some 22, op := Go.Op.load 3 (Go.Operand.tmp 21), type := 3, pos := "decimal.go:137", after := #[{ on := 3, ground := Go.Ground.data }], guard := Option.none }) (v := ?_) rfl (by kernel_rfl) (by kernel_rfl) (by kernel_rfl) (fun _ _ _ h => h) (Or.inl ⟨by rfl, ?_⟩) (by assumption) ?_
    rotate_left
    · (intro w hSw; (try dsimp only at hSw); go_simp; try with_reducible rfl)
    try simp only [Act.put, List.setIfInBounds_toArray, List.set_cons_zero, List.set_cons_succ]
    refine wpAnyH_ready (rs := [2, 10]) (by kernel_rfl) (by simp) ?_
    refine AllReadyH.cons (o := { dst := Option.some 20, op := Go.Op.call { callee := Go.Callee.value (Go.Operand.func 34), args := #[Go.Operand.tmp 19], argTypes := #[3] }, type := 60, pos := "decimal.go:137", after := #[{ on := 1, ground := Go.Ground.data }], guard := Option.none }) rfl (fun K hK => ?_) ?_
    go_simp
    refine (HO0.out _).mono ?_
    rintro e v1 ⟨rfl, b_v1⟩
    have FR_v1 : Hid (Fr w (ncells n An cAn Ak F.nil.len cAk).toArray (ncells m Bn cBn Bk F.nil.len cBk).toArray v1) := FR_v0.out.step b_v1
    have y0i_v1 : v1.cell? ⟨w.heap.size, 1, none⟩ = some (.int .i64 n.int) := FR_v1.out.six1.2.1
    have y1i_v1 : v1.cell? ⟨w.heap.size + 1, 1, none⟩ = some (.int .i64 m.int) := FR_v1.out.six2.2.1
    go_wp2_with fail
    refine hK.out _ _ (⟨y0i_v1, y1i_v1⟩) (fun hHeld => ?_)
    clear hK K
    try simp only [Act.put, List.setIfInBounds_toArray, List.set_cons_zero, List.set_cons_succ]
    refine wpAnyH_ready (rs := [5, 10]) (by kernel_rfl) (by simp) ?_
    refine AllReadyH.cons (o := { dst := Option.some 23, op := Go.Op.call { callee := Go.Callee.value (Go.Operand.func 44), args := #[Go.Operand.tmp 22], argTypes := #[3] }, type := 53, pos := "decimal.go:137", after := #[{ on := 4, ground := Go.Ground.data }, { on := 2, ground := Go.Ground.chain }], guard := Option.none }) rfl (fun K hK => ?_) ?_
    go_simp
    refine (HAB.out _).mono ?_
    rintro e v2 ⟨rfl, b_v2⟩
    have FR_v2 : Hid (Fr w (ncells n An cAn Ak F.nil.len cAk).toArray (ncells m Bn cBn Bk F.nil.len cBk).toArray v2) := FR_v1.out.step b_v2
    have y0i_v2 : v2.cell? ⟨w.heap.size, 1, none⟩ = some (.int .i64 n.int) := FR_v2.out.six1.2.1
    have y1i_v2 : v2.cell? ⟨w.heap.size + 1, 1, none⟩ = some (.int .i64 m.int) := FR_v2.out.six2.2.1
    go_wp2_with fail
    refine hK.out _ _ (⟨y0i_v2, y1i_v2⟩) (fun hHeld => ?_)
    clear hK K
    try simp only [Act.put, List.setIfInBounds_toArray, List.set_cons_zero, List.set_cons_succ]
    refine wpAnyH_ready (rs := [6, 10]) (by kernel_rfl) (by simp) ?_
    refine AllReadyH.cons (o := { dst := Option.some 24, op := Go.Op.call { callee := Go.Callee.value (Go.Operand.func 40), args := #[Go.Operand.tmp 20, Go.Operand.tmp 23], argTypes := #[60, 53] }, type := 68, pos := "decimal.go:137", after := #[{ on := 2, ground := Go.Ground.data }, { on := 5, ground := Go.Ground.data }, { on := 5, ground := Go.Ground.chain }], guard := Option.none }) rfl (fun K hK => ?_) ?_
    go_simp
    refine (HB0.out _).mono ?_
    rintro e v3 ⟨rfl, b_v3⟩
    have FR_v3 : Hid (Fr w (ncells n An cAn Ak F.nil.len cAk).toArray (ncells m Bn cBn Bk F.nil.len cBk).toArray v3) := FR_v2.out.step b_v3
    have y0i_v3 : v3.cell? ⟨w.heap.size, 1, none⟩ = some (.int .i64 n.int) := FR_v3.out.six1.2.1
    have y1i_v3 : v3.cell? ⟨w.heap.size + 1, 1, none⟩ = some (.int .i64 m.int) := FR_v3.out.six2.2.1
    go_wp2_with fail
    refine hK.out _ _ (⟨y0i_v3, y1i_v3⟩) (fun hHeld => ?_)
    clear hK K
    try simp only [Act.put, List.setIfInBounds_toArray, List.set_cons_zero, List.set_cons_succ]
    refine wpAnyH_take (i := 7) (oi := { dst := Option.some 17, op := Go.Op.move (Go.Operand.tmp 24), type := 68, pos := "decimal.go:137", after := #[{ on := 6, ground := Go.Ground.data }], guard := Option.none }) (v := ?_) rfl (by kernel_rfl) (by kernel_rfl) (by kernel_rfl) (fun _ _ _ h => h) (Or.inl ⟨by rfl, ?_⟩) (by assumption) ?_
    rotate_left
    · (intro w hSw; (try dsimp only at hSw); go_simp; try with_reducible rfl)
    try simp only [Act.put, List.setIfInBounds_toArray, List.set_cons_zero, List.set_cons_succ]
    refine wpAnyH_take (i := 8) (oi := { dst := Option.some 25, op := Go.Op.extract (Go.Operand.tmp 17) 0, type := 60, pos := "decimal.go:137", after := #[{ on := 7, ground := Go.Ground.data }], guard := Option.none }) (v := ?_) rfl (by kernel_rfl) (by kernel_rfl) (by kernel_rfl) (fun _ _ _ h => h) (Or.inl ⟨by rfl, ?_⟩) (by assumption) ?_
    rotate_left
    · (intro w hSw; (try dsimp only at hSw); go_simp; try with_reducible rfl)
    try simp only [Act.put, List.setIfInBounds_toArray, List.set_cons_zero, List.set_cons_succ]
    refine wpAnyH_take (i := 9) (oi := { dst := Option.some 26, op := Go.Op.extract (Go.Operand.tmp 17) 1, type := 4, pos := "decimal.go:137", after := #[{ on := 7, ground := Go.Ground.data }, { on := 11, ground := Go.Ground.gcOnly Go.Departure.lateStores }], guard := Option.none }) (v := ?_) rfl (by kernel_rfl) (by kernel_rfl) (by kernel_rfl) (fun _ _ _ h => h) (Or.inl ⟨by rfl, ?_⟩) (by assumption) ?_
    rotate_left
    · (intro w hSw; (try dsimp only at hSw); go_simp; try with_reducible rfl)
    try simp only [Act.put, List.setIfInBounds_toArray, List.set_cons_zero, List.set_cons_succ]
    refine wpAnyH_ready (rs := [10]) (by kernel_rfl) (by simp) ?_
    refine AllReadyH.cons (o := { dst := Option.some 6, op := Go.Op.alloc 60, type := 0, pos := "decimal.go:137", after := #[], guard := Option.none }) rfl (fun K hK => ?_) AllReadyH.nil
    go_simp
    obtain ⟨v4, h_v4⟩ : ∃ v, v3.alloc (.cells #[.int .u64 0, .int .u64 0, .bool false] 60) = v := ⟨_, rfl⟩
    rw [h_v4]
    have b_v4 : Below v3.heap.size v3 v4 := by rw [← h_v4]; exact below_ra _ _
    have FR_v4 : Hid (Fr w (ncells n An cAn Ak F.nil.len cAk).toArray (ncells m Bn cBn Bk F.nil.len cBk).toArray v4) := FR_v3.out.step b_v4
    have K_v4 : Hid (Blk v4 v3.heap.size #[.int .u64 0, .int .u64 0, .bool false] 60) := by show Blk _ _ _ _; rw [← h_v4]; exact Blk.new _ _ _
    have hg : w.heap.size + 1 + 1 < v3.heap.size := FR_v3.out.lt
    have y0i_v4 : v4.cell? ⟨w.heap.size, 1, none⟩ = some (.int .i64 n.int) := FR_v4.out.six1.2.1
    have y1i_v4 : v4.cell? ⟨w.heap.size + 1, 1, none⟩ = some (.int .i64 m.int) := FR_v4.out.six2.2.1
    clear h_v4
    refine hK.out _ _ (⟨y0i_v4, y1i_v4⟩) (fun hHeld => ?_)
    clear hK K
    try simp only [Act.put, List.setIfInBounds_toArray, List.set_cons_zero, List.set_cons_succ]
    refine wpAnyH_ready (rs := [11]) (by kernel_rfl) (by simp) ?_
    refine AllReadyH.cons (o := { dst := Option.none, op := Go.Op.store 60 (Go.Operand.tmp 6) (Go.Operand.tmp 25), type := 0, pos := "decimal.go:137", after := #[{ on := 10, ground := Go.Ground.data }, { on := 8, ground := Go.Ground.data }, { on := 6, ground := Go.Ground.chain }, { on := 0, ground := Go.Ground.phase }, { on := 1, ground := Go.Ground.phase }, { on := 2, ground := Go.Ground.phase }, { on := 3, ground := Go.Ground.phase }, { on := 4, ground := Go.Ground.phase }, { on := 5, ground := Go.Ground.phase }, { on := 6, ground := Go.Ground.phase }, { on := 7, ground := Go.Ground.phase }, { on := 8, ground := Go.Ground.phase }, { on := 9, ground := Go.Ground.textOnly Go.Departure.lateStores }, { on := 10, ground := Go.Ground.phase }], guard := Option.none }) rfl (fun K hK => ?_) AllReadyH.nil
    have s0 : v4.cell? ⟨v3.heap.size, 0, none⟩ = some (.int .u64 0) := K_v4.out.cell 0
    have s_0 := K_v4.out.free 0
    have s1 : v4.cell? ⟨v3.heap.size, 1, none⟩ = some (.int .u64 0) := K_v4.out.cell 1
    have s_1 := K_v4.out.free 1
    have s2 : v4.cell? ⟨v3.heap.size, 2, none⟩ = some (.bool false) := K_v4.out.cell 2
    have s_2 := K_v4.out.free 2
    go_simp
    obtain ⟨v5, h_v5⟩ : ∃ v, (((v4.setCell ⟨v3.heap.size, 0, none⟩ (.int .u64 (A0 : Int))).setCell ⟨v3.heap.size, 1, none⟩ (.int .u64 (B0 : Int))).setCell ⟨v3.heap.size, 2, none⟩ (.bool (decide (n.int < 0)))) = v := ⟨_, rfl⟩
    rw [h_v5]
    clear s0 s1 s2 s_0 s_1 s_2
    have FR_v5 : Hid (Fr w (ncells n An cAn Ak F.nil.len cAk).toArray (ncells m Bn cBn Bk F.nil.len cBk).toArray v5) := by show Fr _ _ _ _; rw [← h_v5]; exact ((FR_v4.out.set hg 0 _).set hg 1 _).set hg 2 _
    have K_v5 : Hid (Blk v5 v3.heap.size #[.int .u64 (A0 : Int), .int .u64 (B0 : Int), .bool (decide (n.int < 0))] 60) := by show Blk _ _ _ _; rw [← h_v5]; exact Blk.three_set K_v4.out
    clear h_v5
    have y0i_v5 : v5.cell? ⟨w.heap.size, 1, none⟩ = some (.int .i64 n.int) := FR_v5.out.six1.2.1
    have y1i_v5 : v5.cell? ⟨w.heap.size + 1, 1, none⟩ = some (.int .i64 m.int) := FR_v5.out.six2.2.1
    have FIN : ∃ g', g' = v3.heap.size := ⟨_, rfl⟩
    refine hK.out _ _ (⟨y0i_v5, y1i_v5⟩) (fun hHeld => ?_)
    clear hK K
    try simp only [Act.put, List.setIfInBounds_toArray, List.set_cons_zero, List.set_cons_succ]
    refine wpAnyH_take (i := 12) (oi := { dst := Option.some 7, op := Go.Op.assign (Go.Operand.tmp 26), type := 4, pos := "decimal.go:137", after := #[{ on := 9, ground := Go.Ground.data }, { on := 11, ground := Go.Ground.chain }, { on := 0, ground := Go.Ground.phase }, { on := 1, ground := Go.Ground.phase }, { on := 2, ground := Go.Ground.phase }, { on := 3, ground := Go.Ground.phase }, { on := 4, ground := Go.Ground.phase }, { on := 5, ground := Go.Ground.phase }, { on := 6, ground := Go.Ground.phase }, { on := 7, ground := Go.Ground.phase }, { on := 8, ground := Go.Ground.phase }, { on := 9, ground := Go.Ground.phase }, { on := 10, ground := Go.Ground.phase }, { on := 11, ground := Go.Ground.phase }], guard := Option.none }) (v := ?_) rfl (by kernel_rfl) (by kernel_rfl) (by kernel_rfl) (fun _ _ _ h => h) (Or.inl ⟨by rfl, ?_⟩) (by assumption) ?_
    rotate_left
    · (intro w hSw; (try dsimp only at hSw); go_simp; try with_reducible rfl)
    try simp only [Act.put, List.setIfInBounds_toArray, List.set_cons_zero, List.set_cons_succ]
    refine wpAnyH_done (by kernel_rfl) ?_ _
    rotate_left 1
    refine AllReadyH.cons (o := { dst := Option.some 6, op := Go.Op.alloc 60, type := 0, pos := "decimal.go:137", after := #[], guard := Option.none }) rfl (fun K hK => ?_) AllReadyH.nil
    go_simp
    obtain ⟨v6, h_v6⟩ : ∃ v, v2.alloc (.cells #[.int .u64 0, .int .u64 0, .bool false] 60) = v := ⟨_, rfl⟩
    rw [h_v6]
    have b_v6 : Below v2.heap.size v2 v6 := by rw [← h_v6]; exact below_ra _ _
    have FR_v6 : Hid (Fr w (ncells n An cAn Ak F.nil.len cAk).toArray (ncells m Bn cBn Bk F.nil.len cBk).toArray v6) := FR_v2.out.step b_v6
    have K_v6 : Hid (Blk v6 v2.heap.size #[.int .u64 0, .int .u64 0, .bool false] 60) := by show Blk _ _ _ _; rw [← h_v6]; exact Blk.new _ _ _
    have hg : w.heap.size + 1 + 1 < v2.heap.size := FR_v2.out.lt
    have y0i_v6 : v6.cell? ⟨w.heap.size, 1, none⟩ = some (.int .i64 n.int) := FR_v6.out.six1.2.1
    have y1i_v6 : v6.cell? ⟨w.heap.size + 1, 1, none⟩ = some (.int .i64 m.int) := FR_v6.out.six2.2.1
    clear h_v6
    refine hK.out _ _ (⟨y0i_v6, y1i_v6⟩) (fun hHeld => ?_)
    clear hK K
    try simp only [Act.put, List.setIfInBounds_toArray, List.set_cons_zero, List.set_cons_succ]
    refine wpAnyH_ready (rs := [6]) (by kernel_rfl) (by simp) ?_
    refine AllReadyH.cons (o := { dst := Option.some 24, op := Go.Op.call { callee := Go.Callee.value (Go.Operand.func 40), args := #[Go.Operand.tmp 20, Go.Operand.tmp 23], argTypes := #[60, 53] }, type := 68, pos := "decimal.go:137", after := #[{ on := 2, ground := Go.Ground.data }, { on := 5, ground := Go.Ground.data }, { on := 5, ground := Go.Ground.chain }], guard := Option.none }) rfl (fun K hK => ?_) AllReadyH.nil
    go_simp
    refine (HB0.out _).mono ?_
    rintro e v7 ⟨rfl, b_v7⟩
    have FR_v7 : Hid (Fr w (ncells n An cAn Ak F.nil.len cAk).toArray (ncells m Bn cBn Bk F.nil.len cBk).toArray v7) := FR_v6.out.step b_v7
    have K_v7 : Hid (Blk v7 v2.heap.size #[.int .u64 0, .int .u64 0, .bool false] 60) := K_v6.out.below b_v7 K_v6.out.lt
    have y0i_v7 : v7.cell? ⟨w.heap.size, 1, none⟩ = some (.int .i64 n.int) := FR_v7.out.six1.2.1
    have y1i_v7 : v7.cell? ⟨w.heap.size + 1, 1, none⟩ = some (.int .i64 m.int) := FR_v7.out.six2.2.1
    go_wp2_with fail
    refine hK.out _ _ (⟨y0i_v7, y1i_v7⟩) (fun hHeld => ?_)
    clear hK K
    try simp only [Act.put, List.setIfInBounds_toArray, List.set_cons_zero, List.set_cons_succ]
    refine wpAnyH_take (i := 7) (oi := { dst := Option.some 17, op := Go.Op.move (Go.Operand.tmp 24), type := 68, pos := "decimal.go:137", after := #[{ on := 6, ground := Go.Ground.data }], guard := Option.none }) (v := ?_) rfl (by kernel_rfl) (by kernel_rfl) (by kernel_rfl) (fun _ _ _ h => h) (Or.inl ⟨by rfl, ?_⟩) (by assumption) ?_
    rotate_left
    · (intro w hSw; (try dsimp only at hSw); go_simp; try with_reducible rfl)
    try simp only [Act.put, List.setIfInBounds_toArray, List.set_cons_zero, List.set_cons_succ]
    refine wpAnyH_take (i := 8) (oi := { dst := Option.some 25, op := Go.Op.extract (Go.Operand.tmp 17) 0, type := 60, pos := "decimal.go:137", after := #[{ on := 7, ground := Go.Ground.data }], guard := Option.none }) (v := ?_) rfl (by kernel_rfl) (by kernel_rfl) (by kernel_rfl) (fun _ _ _ h => h) (Or.inl ⟨by rfl, ?_⟩) (by assumption) ?_
    rotate_left
    · (intro w hSw; (try dsimp only at hSw); go_simp; try with_reducible rfl)
    try simp only [Act.put, List.setIfInBounds_toArray, List.set_cons_zero, List.set_cons_succ]
    refine wpAnyH_take (i := 9) (oi := { dst := Option.some 26, op := Go.Op.extract (Go.Operand.tmp 17) 1, type := 4, pos := "decimal.go:137", after := #[{ on := 7, ground := Go.Ground.data }, { on := 11, ground := Go.Ground.gcOnly Go.Departure.lateStores }], guard := Option.none }) (v := ?_) rfl (by kernel_rfl) (by kernel_rfl) (by kernel_rfl) (fun _ _ _ h => h) (Or.inl ⟨by rfl, ?_⟩) (by assumption) ?_
    rotate_left
    · (intro w hSw; (try dsimp only at hSw); go_simp; try with_reducible rfl)
    try simp only [Act.put, List.setIfInBounds_toArray, List.set_cons_zero, List.set_cons_succ]
    refine wpAnyH_ready (rs := [11]) (by kernel_rfl) (by simp) ?_
    refine AllReadyH.cons (o := { dst := Option.none, op := Go.Op.store 60 (Go.Operand.tmp 6) (Go.Operand.tmp 25), type := 0, pos := "decimal.go:137", after := #[{ on := 10, ground := Go.Ground.data }, { on := 8, ground := Go.Ground.data }, { on := 6, ground := Go.Ground.chain }, { on := 0, ground := Go.Ground.phase }, { on := 1, ground := Go.Ground.phase }, { on := 2, ground := Go.Ground.phase }, { on := 3, ground := Go.Ground.phase }, { on := 4, ground := Go.Ground.phase }, { on := 5, ground := Go.Ground.phase }, { on := 6, ground := Go.Ground.phase }, { on := 7, ground := Go.Ground.phase }, { on := 8, ground := Go.Ground.phase }, { on := 9, ground := Go.Ground.textOnly Go.Departure.lateStores }, { on := 10, ground := Go.Ground.phase }], guard := Option.none }) rfl (fun K hK => ?_) AllReadyH.nil
    have s0 : v7.cell? ⟨v2.heap.size, 0, none⟩ = some (.int .u64 0) := K_v7.out.cell 0
    have s_0 := K_v7.out.free 0
    have s1 : v7.cell? ⟨v2.heap.size, 1, none⟩ = some (.int .u64 0) := K_v7.out.cell 1
    have s_1 := K_v7.out.free 1
    have s2 : v7.cell? ⟨v2.heap.size, 2, none⟩ = some (.bool false) := K_v7.out.cell 2
    have s_2 := K_v7.out.free 2
    go_simp
    obtain ⟨v8, h_v8⟩ : ∃ v, (((v7.setCell ⟨v2.heap.size, 0, none⟩ (.int .u64 (A0 : Int))).setCell ⟨v2.heap.size, 1, none⟩ (.int .u64 (B0 : Int))).setCell ⟨v2.heap.size, 2, none⟩ (.bool (decide (n.int < 0)))) = v := ⟨_, rfl⟩
    rw [h_v8]
    clear s0 s1 s2 s_0 s_1 s_2
    have FR_v8 : Hid (Fr w (ncells n An cAn Ak F.nil.len cAk).toArray (ncells m Bn cBn Bk F.nil.len cBk).toArray v8) := by show Fr _ _ _ _; rw [← h_v8]; exact ((FR_v7.out.set hg 0 _).set hg 1 _).set hg 2 _
    have K_v8 : Hid (Blk v8 v2.heap.size #[.int .u64 (A0 : Int), .int .u64 (B0 : Int), .bool (decide (n.int < 0))] 60) := by show Blk _ _ _ _; rw [← h_v8]; exact Blk.three_set K_v7.out
    clear h_v8
    have y0i_v8 : v8.cell? ⟨w.heap.size, 1, none⟩ = some (.int .i64 n.int) := FR_v8.out.six1.2.1
    have y1i_v8 : v8.cell? ⟨w.heap.size + 1, 1, none⟩ = some (.int .i64 m.int) := FR_v8.out.six2.2.1
    have FIN : ∃ g', g' = v2.heap.size := ⟨_, rfl⟩
    refine hK.out _ _ (⟨y0i_v8, y1i_v8⟩) (fun hHeld => ?_)
    clear hK K
    try simp only [Act.put, List.setIfInBounds_toArray, List.set_cons_zero, List.set_cons_succ]
    refine wpAnyH_take (i := 12) (oi := { dst := Option.some 7, op := Go.Op.assign (Go.Operand.tmp 26), type := 4, pos := "decimal.go:137", after := #[{ on := 9, ground := Go.Ground.data }, { on := 11, ground := Go.Ground.chain }, { on := 0, ground := Go.Ground.phase }, { on := 1, ground := Go.Ground.phase }, { on := 2, ground := Go.Ground.phase }, { on := 3, ground := Go.Ground.phase }, { on := 4, ground := Go.Ground.phase }, { on := 5, ground := Go.Ground.phase }, { on := 6, ground := Go.Ground.phase }, { on := 7, ground := Go.Ground.phase }, { on := 8, ground := Go.Ground.phase }, { on := 9, ground := Go.Ground.phase }, { on := 10, ground := Go.Ground.phase }, { on := 11, ground := Go.Ground.phase }], guard := Option.none }) (v := ?_) rfl (by kernel_rfl) (by kernel_rfl) (by kernel_rfl) (fun _ _ _ h => h) (Or.inl ⟨by rfl, ?_⟩) (by assumption) ?_
    rotate_left
    · (intro w hSw; (try dsimp only at hSw); go_simp; try with_reducible rfl)
    try simp only [Act.put, List.setIfInBounds_toArray, List.set_cons_zero, List.set_cons_succ]
    refine wpAnyH_done (by kernel_rfl) ?_ _
    rotate_left 1
    refine AllReadyH.cons (o := { dst := Option.some 6, op := Go.Op.alloc 60, type := 0, pos := "decimal.go:137", after := #[], guard := Option.none }) rfl (fun K hK => ?_) AllReadyH.nil
    go_simp
    obtain ⟨v9, h_v9⟩ : ∃ v, v1.alloc (.cells #[.int .u64 0, .int .u64 0, .bool false] 60) = v := ⟨_, rfl⟩
    rw [h_v9]
    have b_v9 : Below v1.heap.size v1 v9 := by rw [← h_v9]; exact below_ra _ _
    have FR_v9 : Hid (Fr w (ncells n An cAn Ak F.nil.len cAk).toArray (ncells m Bn cBn Bk F.nil.len cBk).toArray v9) := FR_v1.out.step b_v9
    have K_v9 : Hid (Blk v9 v1.heap.size #[.int .u64 0, .int .u64 0, .bool false] 60) := by show Blk _ _ _ _; rw [← h_v9]; exact Blk.new _ _ _
    have hg : w.heap.size + 1 + 1 < v1.heap.size := FR_v1.out.lt
    have y0i_v9 : v9.cell? ⟨w.heap.size, 1, none⟩ = some (.int .i64 n.int) := FR_v9.out.six1.2.1
    have y1i_v9 : v9.cell? ⟨w.heap.size + 1, 1, none⟩ = some (.int .i64 m.int) := FR_v9.out.six2.2.1
    clear h_v9
    refine hK.out _ _ (⟨y0i_v9, y1i_v9⟩) (fun hHeld => ?_)
    clear hK K
    try simp only [Act.put, List.setIfInBounds_toArray, List.set_cons_zero, List.set_cons_succ]
    refine wpAnyH_ready (rs := [5]) (by kernel_rfl) (by simp) ?_
    refine AllReadyH.cons (o := { dst := Option.some 23, op := Go.Op.call { callee := Go.Callee.value (Go.Operand.func 44), args := #[Go.Operand.tmp 22], argTypes := #[3] }, type := 53, pos := "decimal.go:137", after := #[{ on := 4, ground := Go.Ground.data }, { on := 2, ground := Go.Ground.chain }], guard := Option.none }) rfl (fun K hK => ?_) AllReadyH.nil
    go_simp
    refine (HAB.out _).mono ?_
    rintro e v10 ⟨rfl, b_v10⟩
    have FR_v10 : Hid (Fr w (ncells n An cAn Ak F.nil.len cAk).toArray (ncells m Bn cBn Bk F.nil.len cBk).toArray v10) := FR_v9.out.step b_v10
    have K_v10 : Hid (Blk v10 v1.heap.size #[.int .u64 0, .int .u64 0, .bool false] 60) := K_v9.out.below b_v10 K_v9.out.lt
    have y0i_v10 : v10.cell? ⟨w.heap.size, 1, none⟩ = some (.int .i64 n.int) := FR_v10.out.six1.2.1
    have y1i_v10 : v10.cell? ⟨w.heap.size + 1, 1, none⟩ = some (.int .i64 m.int) := FR_v10.out.six2.2.1
    go_wp2_with fail
    refine hK.out _ _ (⟨y0i_v10, y1i_v10⟩) (fun hHeld => ?_)
    clear hK K
    try simp only [Act.put, List.setIfInBounds_toArray, List.set_cons_zero, List.set_cons_succ]
    refine wpAnyH_ready (rs := [6]) (by kernel_rfl) (by simp) ?_
    refine AllReadyH.cons (o := { dst := Option.some 24, op := Go.Op.call { callee := Go.Callee.value (Go.Operand.func 40), args := #[Go.Operand.tmp 20, Go.Operand.tmp 23], argTypes := #[60, 53] }, type := 68, pos := "decimal.go:137", after := #[{ on := 2, ground := Go.Ground.data }, { on := 5, ground := Go.Ground.data }, { on := 5, ground := Go.Ground.chain }], guard := Option.none }) rfl (fun K hK => ?_) AllReadyH.nil
    go_simp
    refine (HB0.out _).mono ?_
    rintro e v11 ⟨rfl, b_v11⟩
    have FR_v11 : Hid (Fr w (ncells n An cAn Ak F.nil.len cAk).toArray (ncells m Bn cBn Bk F.nil.len cBk).toArray v11) := FR_v10.out.step b_v11
    have K_v11 : Hid (Blk v11 v1.heap.size #[.int .u64 0, .int .u64 0, .bool false] 60) := K_v10.out.below b_v11 K_v10.out.lt
    have y0i_v11 : v11.cell? ⟨w.heap.size, 1, none⟩ = some (.int .i64 n.int) := FR_v11.out.six1.2.1
    have y1i_v11 : v11.cell? ⟨w.heap.size + 1, 1, none⟩ = some (.int .i64 m.int) := FR_v11.out.six2.2.1
    go_wp2_with fail
    refine hK.out _ _ (⟨y0i_v11, y1i_v11⟩) (fun hHeld => ?_)
    clear hK K
    try simp only [Act.put, List.setIfInBounds_toArray, List.set_cons_zero, List.set_cons_succ]
    refine wpAnyH_take (i := 7) (oi := { dst := Option.some 17, op := Go.Op.move (Go.Operand.tmp 24), type := 68, pos := "decimal.go:137", after := #[{ on := 6, ground := Go.Ground.data }], guard := Option.none }) (v := ?_) rfl (by kernel_rfl) (by kernel_rfl) (by kernel_rfl) (fun _ _ _ h => h) (Or.inl ⟨by rfl, ?_⟩) (by assumption) ?_
    rotate_left
    · (intro w hSw; (try dsimp only at hSw); go_simp; try with_reducible rfl)
    try simp only [Act.put, List.setIfInBounds_toArray, List.set_cons_zero, List.set_cons_succ]
    refine wpAnyH_take (i := 8) (oi := { dst := Option.some 25, op := Go.Op.extract (Go.Operand.tmp 17) 0, type := 60, pos := "decimal.go:137", after := #[{ on := 7, ground := Go.Ground.data }], guard := Option.none }) (v := ?_) rfl (by kernel_rfl) (by kernel_rfl) (by kernel_rfl) (fun _ _ _ h => h) (Or.inl ⟨by rfl, ?_⟩) (by assumption) ?_
    rotate_left
    · (intro w hSw; (try dsimp only at hSw); go_simp; try with_reducible rfl)
    try simp only [Act.put, List.setIfInBounds_toArray, List.set_cons_zero, List.set_cons_succ]
    refine wpAnyH_take (i := 9) (oi := { dst := Option.some 26, op := Go.Op.extract (Go.Operand.tmp 17) 1, type := 4, pos := "decimal.go:137", after := #[{ on := 7, ground := Go.Ground.data }, { on := 11, ground := Go.Ground.gcOnly Go.Departure.lateStores }], guard := Option.none }) (v := ?_) rfl (by kernel_rfl) (by kernel_rfl) (by kernel_rfl) (fun _ _ _ h => h) (Or.inl ⟨by rfl, ?_⟩) (by assumption) ?_
    rotate_left
    · (intro w hSw; (try dsimp only at hSw); go_simp; try with_reducible rfl)
    try simp only [Act.put, List.setIfInBounds_toArray, List.set_cons_zero, List.set_cons_succ]
    refine wpAnyH_ready (rs := [11]) (by kernel_rfl) (by simp) ?_
    refine AllReadyH.cons (o := { dst := Option.none, op := Go.Op.store 60 (Go.Operand.tmp 6) (Go.Operand.tmp 25), type := 0, pos := "decimal.go:137", after := #[{ on := 10, ground := Go.Ground.data }, { on := 8, ground := Go.Ground.data }, { on := 6, ground := Go.Ground.chain }, { on := 0, ground := Go.Ground.phase }, { on := 1, ground := Go.Ground.phase }, { on := 2, ground := Go.Ground.phase }, { on := 3, ground := Go.Ground.phase }, { on := 4, ground := Go.Ground.phase }, { on := 5, ground := Go.Ground.phase }, { on := 6, ground := Go.Ground.phase }, { on := 7, ground := Go.Ground.phase }, { on := 8, ground := Go.Ground.phase }, { on := 9, ground := Go.Ground.textOnly Go.Departure.lateStores }, { on := 10, ground := Go.Ground.phase }], guard := Option.none }) rfl (fun K hK => ?_) AllReadyH.nil
    have s0 : v11.cell? ⟨v1.heap.size, 0, none⟩ = some (.int .u64 0) := K_v11.out.cell 0
    have s_0 := K_v11.out.free 0
    have s1 : v11.cell? ⟨v1.heap.size, 1, none⟩ = some (.int .u64 0) := K_v11.out.cell 1
    have s_1 := K_v11.out.free 1
    have s2 : v11.cell? ⟨v1.heap.size, 2, none⟩ = some (.bool false) := K_v11.out.cell 2
    have s_2 := K_v11.out.free 2
    go_simp
    obtain ⟨v12, h_v12⟩ : ∃ v, (((v11.setCell ⟨v1.heap.size, 0, none⟩ (.int .u64 (A0 : Int))).setCell ⟨v1.heap.size, 1, none⟩ (.int .u64 (B0 : Int))).setCell ⟨v1.heap.size, 2, none⟩ (.bool (decide (n.int < 0)))) = v := ⟨_, rfl⟩
    rw [h_v12]
    clear s0 s1 s2 s_0 s_1 s_2
    have FR_v12 : Hid (Fr w (ncells n An cAn Ak F.nil.len cAk).toArray (ncells m Bn cBn Bk F.nil.len cBk).toArray v12) := by show Fr _ _ _ _; rw [← h_v12]; exact ((FR_v11.out.set hg 0 _).set hg 1 _).set hg 2 _
    have K_v12 : Hid (Blk v12 v1.heap.size #[.int .u64 (A0 : Int), .int .u64 (B0 : Int), .bool (decide (n.int < 0))] 60) := by show Blk _ _ _ _; rw [← h_v12]; exact Blk.three_set K_v11.out
    clear h_v12
    have y0i_v12 : v12.cell? ⟨w.heap.size, 1, none⟩ = some (.int .i64 n.int) := FR_v12.out.six1.2.1
    have y1i_v12 : v12.cell? ⟨w.heap.size + 1, 1, none⟩ = some (.int .i64 m.int) := FR_v12.out.six2.2.1
    have FIN : ∃ g', g' = v1.heap.size := ⟨_, rfl⟩
    refine hK.out _ _ (⟨y0i_v12, y1i_v12⟩) (fun hHeld => ?_)
    clear hK K
    try simp only [Act.put, List.setIfInBounds_toArray, List.set_cons_zero, List.set_cons_succ]
    refine wpAnyH_take (i := 12) (oi := { dst := Option.some 7, op := Go.Op.assign (Go.Operand.tmp 26), type := 4, pos := "decimal.go:137", after := #[{ on := 9, ground := Go.Ground.data }, { on := 11, ground := Go.Ground.chain }, { on := 0, ground := Go.Ground.phase }, { on := 1, ground := Go.Ground.phase }, { on := 2, ground := Go.Ground.phase }, { on := 3, ground := Go.Ground.phase }, { on := 4, ground := Go.Ground.phase }, { on := 5, ground := Go.Ground.phase }, { on := 6, ground := Go.Ground.phase }, { on := 7, ground := Go.Ground.phase }, { on := 8, ground := Go.Ground.phase }, { on := 9, ground := Go.Ground.phase }, { on := 10, ground := Go.Ground.phase }, { on := 11, ground := Go.Ground.phase }], guard := Option.none }) (v := ?_) rfl (by kernel_rfl) (by kernel_rfl) (by kernel_rfl) (fun _ _ _ h => h) (Or.inl ⟨by rfl, ?_⟩) (by assumption) ?_
    rotate_left
    · (intro w hSw; (try dsimp only at hSw); go_simp; try with_reducible rfl)
    try simp only [Act.put, List.setIfInBounds_toArray, List.set_cons_zero, List.set_cons_succ]
    refine wpAnyH_done (by kernel_rfl) ?_ _
    rotate_left 1
    refine AllReadyH.cons (o := { dst := Option.some 6, op := Go.Op.alloc 60, type := 0, pos := "decimal.go:137", after := #[], guard := Option.none }) rfl (fun K hK => ?_) AllReadyH.nil
    go_simp
    obtain ⟨v13, h_v13⟩ : ∃ v, v0.alloc (.cells #[.int .u64 0, .int .u64 0, .bool false] 60) = v := ⟨_, rfl⟩
    rw [h_v13]
    have b_v13 : Below v0.heap.size v0 v13 := by rw [← h_v13]; exact below_ra _ _
    have FR_v13 : Hid (Fr w (ncells n An cAn Ak F.nil.len cAk).toArray (ncells m Bn cBn Bk F.nil.len cBk).toArray v13) := FR_v0.out.step b_v13
    have K_v13 : Hid (Blk v13 v0.heap.size #[.int .u64 0, .int .u64 0, .bool false] 60) := by show Blk _ _ _ _; rw [← h_v13]; exact Blk.new _ _ _
    have hg : w.heap.size + 1 + 1 < v0.heap.size := FR_v0.out.lt
    have y0i_v13 : v13.cell? ⟨w.heap.size, 1, none⟩ = some (.int .i64 n.int) := FR_v13.out.six1.2.1
    have y1i_v13 : v13.cell? ⟨w.heap.size + 1, 1, none⟩ = some (.int .i64 m.int) := FR_v13.out.six2.2.1
    clear h_v13
    refine hK.out _ _ (⟨y0i_v13, y1i_v13⟩) (fun hHeld => ?_)
    clear hK K
    try simp only [Act.put, List.setIfInBounds_toArray, List.set_cons_zero, List.set_cons_succ]
    refine wpAnyH_ready (rs := [2]) (by kernel_rfl) (by simp) ?_
    refine AllReadyH.cons (o := { dst := Option.some 20, op := Go.Op.call { callee := Go.Callee.value (Go.Operand.func 34), args := #[Go.Operand.tmp 19], argTypes := #[3] }, type := 60, pos := "decimal.go:137", after := #[{ on := 1, ground := Go.Ground.data }], guard := Option.none }) rfl (fun K hK => ?_) AllReadyH.nil
    go_simp
    refine (HO0.out _).mono ?_
    rintro e v14 ⟨rfl, b_v14⟩
    have FR_v14 : Hid (Fr w (ncells n An cAn Ak F.nil.len cAk).toArray (ncells m Bn cBn Bk F.nil.len cBk).toArray v14) := FR_v13.out.step b_v14
    have K_v14 : Hid (Blk v14 v0.heap.size #[.int .u64 0, .int .u64 0, .bool false] 60) := K_v13.out.below b_v14 K_v13.out.lt
    have y0i_v14 : v14.cell? ⟨w.heap.size, 1, none⟩ = some (.int .i64 n.int) := FR_v14.out.six1.2.1
    have y1i_v14 : v14.cell? ⟨w.heap.size + 1, 1, none⟩ = some (.int .i64 m.int) := FR_v14.out.six2.2.1
    go_wp2_with fail
    refine hK.out _ _ (⟨y0i_v14, y1i_v14⟩) (fun hHeld => ?_)
    clear hK K
    try simp only [Act.put, List.setIfInBounds_toArray, List.set_cons_zero, List.set_cons_succ]
    refine wpAnyH_ready (rs := [5]) (by kernel_rfl) (by simp) ?_
    refine AllReadyH.cons (o := { dst := Option.some 23, op := Go.Op.call { callee := Go.Callee.value (Go.Operand.func 44), args := #[Go.Operand.tmp 22], argTypes := #[3] }, type := 53, pos := "decimal.go:137", after := #[{ on := 4, ground := Go.Ground.data }, { on := 2, ground := Go.Ground.chain }], guard := Option.none }) rfl (fun K hK => ?_) AllReadyH.nil
    go_simp
    refine (HAB.out _).mono ?_
    rintro e v15 ⟨rfl, b_v15⟩
    have FR_v15 : Hid (Fr w (ncells n An cAn Ak F.nil.len cAk).toArray (ncells m Bn cBn Bk F.nil.len cBk).toArray v15) := FR_v14.out.step b_v15
    have K_v15 : Hid (Blk v15 v0.heap.size #[.int .u64 0, .int .u64 0, .bool false] 60) := K_v14.out.below b_v15 K_v14.out.lt
    have y0i_v15 : v15.cell? ⟨w.heap.size, 1, none⟩ = some (.int .i64 n.int) := FR_v15.out.six1.2.1
    have y1i_v15 : v15.cell? ⟨w.heap.size + 1, 1, none⟩ = some (.int .i64 m.int) := FR_v15.out.six2.2.1
    go_wp2_with fail
    refine hK.out _ _ (⟨y0i_v15, y1i_v15⟩) (fun hHeld => ?_)
    clear hK K
    try simp only [Act.put, List.setIfInBounds_toArray, List.set_cons_zero, List.set_cons_succ]
    refine wpAnyH_ready (rs := [6]) (by kernel_rfl) (by simp) ?_
    refine AllReadyH.cons (o := { dst := Option.some 24, op := Go.Op.call { callee := Go.Callee.value (Go.Operand.func 40), args := #[Go.Operand.tmp 20, Go.Operand.tmp 23], argTypes := #[60, 53] }, type := 68, pos := "decimal.go:137", after := #[{ on := 2, ground := Go.Ground.data }, { on := 5, ground := Go.Ground.data }, { on := 5, ground := Go.Ground.chain }], guard := Option.none }) rfl (fun K hK => ?_) AllReadyH.nil
    go_simp
    refine (HB0.out _).mono ?_
    rintro e v16 ⟨rfl, b_v16⟩
    have FR_v16 : Hid (Fr w (ncells n An cAn Ak F.nil.len cAk).toArray (ncells m Bn cBn Bk F.nil.len cBk).toArray v16) := FR_v15.out.step b_v16
    have K_v16 : Hid (Blk v16 v0.heap.size #[.int .u64 0, .int .u64 0, .bool false] 60) := K_v15.out.below b_v16 K_v15.out.lt
    have y0i_v16 : v16.cell? ⟨w.heap.size, 1, none⟩ = some (.int .i64 n.int) := FR_v16.out.six1.2.1
    have y1i_v16 : v16.cell? ⟨w.heap.size + 1, 1, none⟩ = some (.int .i64 m.int) := FR_v16.out.six2.2.1
    go_wp2_with fail
    refine hK.out _ _ (⟨y0i_v16, y1i_v16⟩) (fun hHeld => ?_)
    clear hK K
    try simp only [Act.put, List.setIfInBounds_toArray, List.set_cons_zero, List.set_cons_succ]
    refine wpAnyH_take (i := 7) (oi := { dst := Option.some 17, op := Go.Op.move (Go.Operand.tmp 24), type := 68, pos := "decimal.go:137", after := #[{ on := 6, ground := Go.Ground.data }], guard := Option.none }) (v := ?_) rfl (by kernel_rfl) (by kernel_rfl) (by kernel_rfl) (fun _ _ _ h => h) (Or.inl ⟨by rfl, ?_⟩) (by assumption) ?_
    rotate_left
    · (intro w hSw; (try dsimp only at hSw); go_simp; try with_reducible rfl)
    try simp only [Act.put, List.setIfInBounds_toArray, List.set_cons_zero, List.set_cons_succ]
    refine wpAnyH_take (i := 8) (oi := { dst := Option.some 25, op := Go.Op.extract (Go.Operand.tmp 17) 0, type := 60, pos := "decimal.go:137", after := #[{ on := 7, ground := Go.Ground.data }], guard := Option.none }) (v := ?_) rfl (by kernel_rfl) (by kernel_rfl) (by kernel_rfl) (fun _ _ _ h => h) (Or.inl ⟨by rfl, ?_⟩) (by assumption) ?_
    rotate_left
    · (intro w hSw; (try dsimp only at hSw); go_simp; try with_reducible rfl)
    try simp only [Act.put, List.setIfInBounds_toArray, List.set_cons_zero, List.set_cons_succ]
    refine wpAnyH_take (i := 9) (oi := { dst := Option.some 26, op := Go.Op.extract (Go.Operand.tmp 17) 1, type := 4, pos := "decimal.go:137", after := #[{ on := 7, ground := Go.Ground.data }, { on := 11, ground := Go.Ground.gcOnly Go.Departure.lateStores }], guard := Option.none }) (v := ?_) rfl (by kernel_rfl) (by kernel_rfl) (by kernel_rfl) (fun _ _ _ h => h) (Or.inl ⟨by rfl, ?_⟩) (by assumption) ?_
    rotate_left
    · (intro w hSw; (try dsimp only at hSw); go_simp; try with_reducible rfl)
    try simp only [Act.put, List.setIfInBounds_toArray, List.set_cons_zero, List.set_cons_succ]
    refine wpAnyH_ready (rs := [11]) (by kernel_rfl) (by simp) ?_
    refine AllReadyH.cons (o := { dst := Option.none, op := Go.Op.store 60 (Go.Operand.tmp 6) (Go.Operand.tmp 25), type := 0, pos := "decimal.go:137", after := #[{ on := 10, ground := Go.Ground.data }, { on := 8, ground := Go.Ground.data }, { on := 6, ground := Go.Ground.chain }, { on := 0, ground := Go.Ground.phase }, { on := 1, ground := Go.Ground.phase }, { on := 2, ground := Go.Ground.phase }, { on := 3, ground := Go.Ground.phase }, { on := 4, ground := Go.Ground.phase }, { on := 5, ground := Go.Ground.phase }, { on := 6, ground := Go.Ground.phase }, { on := 7, ground := Go.Ground.phase }, { on := 8, ground := Go.Ground.phase }, { on := 9, ground := Go.Ground.textOnly Go.Departure.lateStores }, { on := 10, ground := Go.Ground.phase }], guard := Option.none }) rfl (fun K hK => ?_) AllReadyH.nil
    have s0 : v16.cell? ⟨v0.heap.size, 0, none⟩ = some (.int .u64 0) := K_v16.out.cell 0
    have s_0 := K_v16.out.free 0
    have s1 : v16.cell? ⟨v0.heap.size, 1, none⟩ = some (.int .u64 0) := K_v16.out.cell 1
    have s_1 := K_v16.out.free 1
    have s2 : v16.cell? ⟨v0.heap.size, 2, none⟩ = some (.bool false) := K_v16.out.cell 2
    have s_2 := K_v16.out.free 2
    go_simp
    obtain ⟨v17, h_v17⟩ : ∃ v, (((v16.setCell ⟨v0.heap.size, 0, none⟩ (.int .u64 (A0 : Int))).setCell ⟨v0.heap.size, 1, none⟩ (.int .u64 (B0 : Int))).setCell ⟨v0.heap.size, 2, none⟩ (.bool (decide (n.int < 0)))) = v := ⟨_, rfl⟩
    rw [h_v17]
    clear s0 s1 s2 s_0 s_1 s_2
    have FR_v17 : Hid (Fr w (ncells n An cAn Ak F.nil.len cAk).toArray (ncells m Bn cBn Bk F.nil.len cBk).toArray v17) := by show Fr _ _ _ _; rw [← h_v17]; exact ((FR_v16.out.set hg 0 _).set hg 1 _).set hg 2 _
    have K_v17 : Hid (Blk v17 v0.heap.size #[.int .u64 (A0 : Int), .int .u64 (B0 : Int), .bool (decide (n.int < 0))] 60) := by show Blk _ _ _ _; rw [← h_v17]; exact Blk.three_set K_v16.out
    clear h_v17
    have y0i_v17 : v17.cell? ⟨w.heap.size, 1, none⟩ = some (.int .i64 n.int) := FR_v17.out.six1.2.1
    have y1i_v17 : v17.cell? ⟨w.heap.size + 1, 1, none⟩ = some (.int .i64 m.int) := FR_v17.out.six2.2.1
    have FIN : ∃ g', g' = v0.heap.size := ⟨_, rfl⟩
    refine hK.out _ _ (⟨y0i_v17, y1i_v17⟩) (fun hHeld => ?_)
    clear hK K
    try simp only [Act.put, List.setIfInBounds_toArray, List.set_cons_zero, List.set_cons_succ]
    refine wpAnyH_take (i := 12) (oi := { dst := Option.some 7, op := Go.Op.assign (Go.Operand.tmp 26), type := 4, pos := "decimal.go:137", after := #[{ on := 9, ground := Go.Ground.data }, { on := 11, ground := Go.Ground.chain }, { on := 0, ground := Go.Ground.phase }, { on := 1, ground := Go.Ground.phase }, { on := 2, ground := Go.Ground.phase }, { on := 3, ground := Go.Ground.phase }, { on := 4, ground := Go.Ground.phase }, { on := 5, ground := Go.Ground.phase }, { on := 6, ground := Go.Ground.phase }, { on := 7, ground := Go.Ground.phase }, { on := 8, ground := Go.Ground.phase }, { on := 9, ground := Go.Ground.phase }, { on := 10, ground := Go.Ground.phase }, { on := 11, ground := Go.Ground.phase }], guard := Option.none }) (v := ?_) rfl (by kernel_rfl) (by kernel_rfl) (by kernel_rfl) (fun _ _ _ h => h) (Or.inl ⟨by rfl, ?_⟩) (by assumption) ?_
    rotate_left
    · (intro w hSw; (try dsimp only at hSw); go_simp; try with_reducible rfl)
    try simp only [Act.put, List.setIfInBounds_toArray, List.set_cons_zero, List.set_cons_succ]
    refine wpAnyH_done (by kernel_rfl) ?_ _
    all_goals (
      go_wp2_with fail
      go_meet
      exact ⟨_, rfl, rfl, hg, by assumption, by assumption⟩)
  case rest =>
    obtain ⟨g6, rfl, rfl, hg6, FR_wc, K_wc⟩ := hcut
    clear FR_u2
    go_upto_region 4 with fail
    obtain ⟨x0_0, x0_1, x0_2, x0_3, x0_4, x0_5⟩ := FR_wc.out.six1
    obtain ⟨x1_0, x1_1, x1_2, x1_3, x1_4, x1_5⟩ := FR_wc.out.six2
    have y0 := K_wc.out.cell 0
    have t2 : wc.cell? ⟨g6, 2, none⟩ = some (.bool (decide (n.int < 0))) := K_wc.out.cell 2
    have f2 := K_wc.out.free 2
    clear y0
    go_upto_region 5 with fail
    obtain ⟨W6, hW6⟩ : ∃ W, wc.setCell ⟨g6, 2, none⟩ (.bool (!(decide (n.int < 0) == decide (m.int < 0)))) = W := ⟨_, rfl⟩
    rw [hW6]
    have FR6 : Hid (Fr w (ncells n An cAn Ak F.nil.len cAk).toArray (ncells m Bn cBn Bk F.nil.len cBk).toArray W6) := by show Fr _ _ _ _; rw [← hW6]; exact FR_wc.out.set hg6 2 _
    have K6 : Blk W6 g6 #[.int .u64 (A0 : Int), .int .u64 (B0 : Int), (.bool (!(decide (n.int < 0) == decide (m.int < 0))))] 60 := by rw [← hW6]; simpa using K_wc.out.set 2 (.bool (!(decide (n.int < 0) == decide (m.int < 0))))
    clear x0_0 x0_1 x0_2 x0_3 x0_4 x0_5 x1_0 x1_1 x1_2 x1_3 x1_4 x1_5
    clear hW6 t2 f2 FR_wc K_wc
    have z0 : W6.cell? ⟨g6, 0, none⟩ = some (.int .u64 (A0 : Int)) := K6.cell 0
    have z1 : W6.cell? ⟨g6, 1, none⟩ = some (.int .u64 (B0 : Int)) := K6.cell 1
    have z2 : W6.cell? ⟨g6, 2, none⟩ = some (.bool (!(decide (n.int < 0) == decide (m.int < 0)))) := K6.cell 2
    clear K6
    obtain ⟨x0_0, x0_1, x0_2, x0_3, x0_4, x0_5⟩ := FR6.out.six1
    obtain ⟨x1_0, x1_1, x1_2, x1_3, x1_4, x1_5⟩ := FR6.out.six2
    go_wp2_with fail
    refine (HL.out _ _ HW.out).mono ?_
    rintro e w9 ⟨rfl, b9⟩
    have FR9 := Lib.hid (FR6.out.step b9)
    have p0 : w9.cell? ⟨w.heap.size + 1 + 1, 0, none⟩ = some (.int .i64 0) := FR9.out.2.2.2.cell 0
    have q_0 := FR9.out.2.2.2.free 0
    have p1 : w9.cell? ⟨w.heap.size + 1 + 1, 1, none⟩ = some (.int .i64 0) := FR9.out.2.2.2.cell 1
    have q_1 := FR9.out.2.2.2.free 1
    have p2 : w9.cell? ⟨w.heap.size + 1 + 1, 2, none⟩ = some (.int .i64 0) := FR9.out.2.2.2.cell 2
    have q_2 := FR9.out.2.2.2.free 2
    have p3 : w9.cell? ⟨w.heap.size + 1 + 1, 3, none⟩ = some (.string ⟨#[]⟩) := FR9.out.2.2.2.cell 3
    have q_3 := FR9.out.2.2.2.free 3
    have p4 : w9.cell? ⟨w.heap.size + 1 + 1, 4, none⟩ = some (.slice none 0 0) := FR9.out.2.2.2.cell 4
    have q_4 := FR9.out.2.2.2.free 4
    have p5 : w9.cell? ⟨w.heap.size + 1 + 1, 5, none⟩ = some (.slice none 0 0) := FR9.out.2.2.2.cell 5
    have q_5 := FR9.out.2.2.2.free 5
    clear b9
    go_wp2_with fail
    exact ret6 Tryd.results23 rfl rfl FR9.out.2.2.2 (by omega) FR9.out.1 HV.out
theorem rmul6_any (n : Nd) (k : F) (m : Nd) (q : F) (v u : Value) (w : World) (hv : Vo w (· < w.heap.size) n k v) (hu : Vo w (· < w.heap.size) m q u) :
    Calls Tryd.prog 23 #[v, u] w (Ret (vans (mulR n k m q)) w) := by
  cases h1 : numB n k with
  | false =>
    rw [show mulR n k m q = (zN, 11) from by unfold mulR; rw [h1]; rfl]
    exact rmul6_0 n k m q v u w hv hu h1
  | true =>
    cases h2 : numB m q with
    | false =>
      rw [show mulR n k m q = (zN, 11) from by unfold mulR; rw [h1, h2]; rfl]
      exact rmul6_1 n k m q v u w hv hu h1 h2
    | true => exact rmul6_c n k m q v u w hv hu h1 h2

end Go.Proofs.YtfcbcbpnlnkpcaaDoor

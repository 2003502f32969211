/- DecimalSpreads: the walk of the law. (Printed by gen/dspreads.py.) -/
import Derived.Test.YtfcbcbpnlnkpcaaDoorQKnown6
import Derived.Test.YtfcbcbpnlnkpcaaDoorQAn
import Derived.Test.YtfcbcbpnlnkpcaaDoorQLawp6
namespace Go.Proofs.YtfcbcbpnlnkpcaaDoor
set_option linter.all false
open Go.RowKit
theorem spread_law {n m l : Nd} (hn : isNum n) (hm : isNum m) (hl : isNum l) (h1 : (addR m .nil l .nil).2 = 0) (h2 : (mulR n .nil m .nil).2 = 0) (h3 : (mulR n .nil l .nil).2 = 0) :
    mulR n .nil (addR m .nil l .nil).1 .nil = addR (mulR n .nil m .nil).1 .nil (mulR n .nil l .nil).1 .nil := by
  rw [addR_num hm hl] at *
  rw [mulR_num hn hm] at *
  rw [mulR_num hn hl] at *
  have ⟨a1, a2⟩ := lsR_val h1
  have ⟨b1, b2⟩ := lsR_val36 h2
  have ⟨c1, c2⟩ := lsR_val36 h3
  generalize (lsR (vN m + vN l) 18).1 = S at *
  generalize (lsR (vN n * vN m) 36).1 = P at *
  generalize (lsR (vN n * vN l) 36).1 = Q at *
  rw [mulR_num hn a1, addR_num b1 c1, a2, Int.mul_add, ← b2, ← c2, ← Int.add_mul]
  have e : ∀ M : Int, lsR (M * 10 ^ 18) 36 = lsR M 18 := fun M => by
    unfold lsR
    rw [show leastP (M * 10 ^ 18) 36 = leastP M 18 from leastP_pow M 18 18]
  exact e _
theorem lsR_err (M : Int) (s : Nat) : (lsR M s).2 = 0 ∨ (lsR M s).2 = 10 := by
  unfold lsR aE
  split
  · exact .inl rfl
  · exact .inr rfl
theorem addR_err {n m : Nd} (hn : isNum n) (hm : isNum m) : (addR n .nil m .nil).2 = 0 ∨ (addR n .nil m .nil).2 = 10 := by rw [addR_num hn hm]; exact lsR_err _ _
theorem mulR_err {n m : Nd} (hn : isNum n) (hm : isNum m) : (mulR n .nil m .nil).2 = 0 ∨ (mulR n .nil m .nil).2 = 10 := by rw [mulR_num hn hm]; exact lsR_err _ _
theorem addR_isNum {n m : Nd} (hn : isNum n) (hm : isNum m) (h : (addR n .nil m .nil).2 = 0) : isNum (addR n .nil m .nil).1 := by rw [addR_num hn hm] at *; exact (lsR_val h).1

set_option maxRecDepth 100000 in
set_option maxHeartbeats 6400000 in
theorem decimalSpreads_0 (n : Nd) (k : F) (m : Nd) (q : F) (l : Nd) (j : F) (v : Value) (u : Value) (t : Value) (w : World) (hv : Vo w (· < w.heap.size) n k v) (hu : Vo w (· < w.heap.size) m q u) (ht : Vo w (· < w.heap.size) l j t)  (h1 : numB n k = false) :
    Calls Tryd.prog 4 #[v, u, t] w (Ret (.bool true) w) := by
  obtain ⟨An, cAn, Ak, cAk, rfl, hok0, _, _, _, _⟩ := id hv
  obtain ⟨Bn, cBn, Bk, cBk, rfl, hok1, _, _, _, _⟩ := id hu
  obtain ⟨Cn, cCn, Ck, cCk, rfl, hok2, _, _, _, _⟩ := id ht
  obtain ⟨W0, hW0⟩ : ∃ W0, (((w.alloc (.cells #[.int .i64 n.kind, .int .i64 n.int, .int .i64 n.scale, .string (str n.text), .slice An n.names.length cAn, .slice Ak k.len cAk] 25)).alloc (.cells #[.int .i64 m.kind, .int .i64 m.int, .int .i64 m.scale, .string (str m.text), .slice Bn m.names.length cBn, .slice Bk q.len cBk] 25)).alloc (.cells #[.int .i64 l.kind, .int .i64 l.int, .int .i64 l.scale, .string (str l.text), .slice Cn l.names.length cCn, .slice Ck j.len cCk] 25)) = W0 := ⟨_, rfl⟩
  have ST0 : Hid (St w [⟨w.heap.size, n, k, An, cAn, Ak, cAk⟩, ⟨w.heap.size + 1, m, q, Bn, cBn, Bk, cBk⟩, ⟨w.heap.size + 1 + 1, l, j, Cn, cCn, Ck, cCk⟩] W0) := by
    have := (St.box_new (St.box_new (St.box_new (St.nil w) hv) hu) ht)
    show St _ _ _
    rw [← hW0]
    simpa [ncells, Nat.add_assoc] using this
  unfold ncells
  have HI0 : Hid (∀ W, Vo W (· < W.heap.size) n k (.agg #[.int .i64 n.kind, .int .i64 n.int, .int .i64 n.scale, .string (str n.text), .slice An n.names.length cAn, .slice Ak k.len cAk]) → Calls Tryd.prog 14 #[.agg #[.int .i64 n.kind, .int .i64 n.int, .int .i64 n.scale, .string (str n.text), .slice An n.names.length cAn, .slice Ak k.len cAk]] W (Ret (.bool (numB n k)) W)) := fun W h => is_any n k _ W h
  have HI1 : Hid (∀ W, Vo W (· < W.heap.size) m q (.agg #[.int .i64 m.kind, .int .i64 m.int, .int .i64 m.scale, .string (str m.text), .slice Bn m.names.length cBn, .slice Bk q.len cBk]) → Calls Tryd.prog 14 #[.agg #[.int .i64 m.kind, .int .i64 m.int, .int .i64 m.scale, .string (str m.text), .slice Bn m.names.length cBn, .slice Bk q.len cBk]] W (Ret (.bool (numB m q)) W)) := fun W h => is_any m q _ W h
  have HI2 : Hid (∀ W, Vo W (· < W.heap.size) l j (.agg #[.int .i64 l.kind, .int .i64 l.int, .int .i64 l.scale, .string (str l.text), .slice Cn l.names.length cCn, .slice Ck j.len cCk]) → Calls Tryd.prog 14 #[.agg #[.int .i64 l.kind, .int .i64 l.int, .int .i64 l.scale, .string (str l.text), .slice Cn l.names.length cCn, .slice Ck j.len cCk]] W (Ret (.bool (numB l j)) W)) := fun W h => is_any l j _ W h
  rw [h1] at HI0
  clear hv hu ht h1
  go_enter Tryd.func4, Tryd.ntmps4
  go_upto_region 1 with fail
  clear hW0
  obtain ⟨x0_0, x0_1, x0_2, x0_3, x0_4, x0_5⟩ : _ := ST0.out.six 0 rfl
  go_wp2_with fail
  refine (HI0.out _ (ST0.out.v 0 rfl)).mono ?_
  rintro e' u1 ⟨rfl, c1⟩
  have ST1 : Hid (St w [⟨w.heap.size, n, k, An, cAn, Ak, cAk⟩, ⟨w.heap.size + 1, m, q, Bn, cBn, Bk, cBk⟩, ⟨w.heap.size + 1 + 1, l, j, Cn, cCn, Ck, cCk⟩] u1) := ST0.out.step c1
  clear c1
  clear x0_0 x0_1 x0_2 x0_3 x0_4 x0_5
  go_wp2_with fail
  go_ret
  exact ⟨rfl, ST1.out.1⟩
set_option maxRecDepth 100000 in
set_option maxHeartbeats 6400000 in
theorem decimalSpreads_1 (n : Nd) (k : F) (m : Nd) (q : F) (l : Nd) (j : F) (v : Value) (u : Value) (t : Value) (w : World) (hv : Vo w (· < w.heap.size) n k v) (hu : Vo w (· < w.heap.size) m q u) (ht : Vo w (· < w.heap.size) l j t)  (h1 : numB n k = true) (h2 : numB m q = false) :
    Calls Tryd.prog 4 #[v, u, t] w (Ret (.bool true) w) := by
  obtain ⟨An, cAn, Ak, cAk, rfl, hok0, _, _, _, _⟩ := id hv
  obtain ⟨Bn, cBn, Bk, cBk, rfl, hok1, _, _, _, _⟩ := id hu
  obtain ⟨Cn, cCn, Ck, cCk, rfl, hok2, _, _, _, _⟩ := id ht
  obtain ⟨W0, hW0⟩ : ∃ W0, (((w.alloc (.cells #[.int .i64 n.kind, .int .i64 n.int, .int .i64 n.scale, .string (str n.text), .slice An n.names.length cAn, .slice Ak k.len cAk] 25)).alloc (.cells #[.int .i64 m.kind, .int .i64 m.int, .int .i64 m.scale, .string (str m.text), .slice Bn m.names.length cBn, .slice Bk q.len cBk] 25)).alloc (.cells #[.int .i64 l.kind, .int .i64 l.int, .int .i64 l.scale, .string (str l.text), .slice Cn l.names.length cCn, .slice Ck j.len cCk] 25)) = W0 := ⟨_, rfl⟩
  have ST0 : Hid (St w [⟨w.heap.size, n, k, An, cAn, Ak, cAk⟩, ⟨w.heap.size + 1, m, q, Bn, cBn, Bk, cBk⟩, ⟨w.heap.size + 1 + 1, l, j, Cn, cCn, Ck, cCk⟩] W0) := by
    have := (St.box_new (St.box_new (St.box_new (St.nil w) hv) hu) ht)
    show St _ _ _
    rw [← hW0]
    simpa [ncells, Nat.add_assoc] using this
  unfold ncells
  have HI0 : Hid (∀ W, Vo W (· < W.heap.size) n k (.agg #[.int .i64 n.kind, .int .i64 n.int, .int .i64 n.scale, .string (str n.text), .slice An n.names.length cAn, .slice Ak k.len cAk]) → Calls Tryd.prog 14 #[.agg #[.int .i64 n.kind, .int .i64 n.int, .int .i64 n.scale, .string (str n.text), .slice An n.names.length cAn, .slice Ak k.len cAk]] W (Ret (.bool (numB n k)) W)) := fun W h => is_any n k _ W h
  have HI1 : Hid (∀ W, Vo W (· < W.heap.size) m q (.agg #[.int .i64 m.kind, .int .i64 m.int, .int .i64 m.scale, .string (str m.text), .slice Bn m.names.length cBn, .slice Bk q.len cBk]) → Calls Tryd.prog 14 #[.agg #[.int .i64 m.kind, .int .i64 m.int, .int .i64 m.scale, .string (str m.text), .slice Bn m.names.length cBn, .slice Bk q.len cBk]] W (Ret (.bool (numB m q)) W)) := fun W h => is_any m q _ W h
  have HI2 : Hid (∀ W, Vo W (· < W.heap.size) l j (.agg #[.int .i64 l.kind, .int .i64 l.int, .int .i64 l.scale, .string (str l.text), .slice Cn l.names.length cCn, .slice Ck j.len cCk]) → Calls Tryd.prog 14 #[.agg #[.int .i64 l.kind, .int .i64 l.int, .int .i64 l.scale, .string (str l.text), .slice Cn l.names.length cCn, .slice Ck j.len cCk]] W (Ret (.bool (numB l j)) W)) := fun W h => is_any l j _ W h
  rw [h1] at HI0
  rw [h2] at HI1
  clear hv hu ht h1 h2
  go_enter Tryd.func4, Tryd.ntmps4
  go_upto_region 1 with fail
  clear hW0
  obtain ⟨x0_0, x0_1, x0_2, x0_3, x0_4, x0_5⟩ : _ := ST0.out.six 0 rfl
  go_wp2_with fail
  refine (HI0.out _ (ST0.out.v 0 rfl)).mono ?_
  rintro e' u1 ⟨rfl, c1⟩
  have ST1 : Hid (St w [⟨w.heap.size, n, k, An, cAn, Ak, cAk⟩, ⟨w.heap.size + 1, m, q, Bn, cBn, Bk, cBk⟩, ⟨w.heap.size + 1 + 1, l, j, Cn, cCn, Ck, cCk⟩] u1) := ST0.out.step c1
  clear c1
  clear x0_0 x0_1 x0_2 x0_3 x0_4 x0_5
  obtain ⟨x1_0, x1_1, x1_2, x1_3, x1_4, x1_5⟩ : _ := ST1.out.six 1 rfl
  go_wp2_with fail
  refine (HI1.out _ (ST1.out.v 1 rfl)).mono ?_
  rintro e' u2 ⟨rfl, c2⟩
  have ST2 : Hid (St w [⟨w.heap.size, n, k, An, cAn, Ak, cAk⟩, ⟨w.heap.size + 1, m, q, Bn, cBn, Bk, cBk⟩, ⟨w.heap.size + 1 + 1, l, j, Cn, cCn, Ck, cCk⟩] u2) := ST1.out.step c2
  clear c2
  clear x1_0 x1_1 x1_2 x1_3 x1_4 x1_5
  go_wp2_with fail
  go_ret
  exact ⟨rfl, ST2.out.1⟩
set_option maxRecDepth 100000 in
set_option maxHeartbeats 6400000 in
theorem decimalSpreads_2 (n : Nd) (k : F) (m : Nd) (q : F) (l : Nd) (j : F) (v : Value) (u : Value) (t : Value) (w : World) (hv : Vo w (· < w.heap.size) n k v) (hu : Vo w (· < w.heap.size) m q u) (ht : Vo w (· < w.heap.size) l j t)  (h1 : numB n k = true) (h2 : numB m q = true) (h3 : numB l j = false) :
    Calls Tryd.prog 4 #[v, u, t] w (Ret (.bool true) w) := by
  obtain ⟨An, cAn, Ak, cAk, rfl, hok0, _, _, _, _⟩ := id hv
  obtain ⟨Bn, cBn, Bk, cBk, rfl, hok1, _, _, _, _⟩ := id hu
  obtain ⟨Cn, cCn, Ck, cCk, rfl, hok2, _, _, _, _⟩ := id ht
  obtain ⟨W0, hW0⟩ : ∃ W0, (((w.alloc (.cells #[.int .i64 n.kind, .int .i64 n.int, .int .i64 n.scale, .string (str n.text), .slice An n.names.length cAn, .slice Ak k.len cAk] 25)).alloc (.cells #[.int .i64 m.kind, .int .i64 m.int, .int .i64 m.scale, .string (str m.text), .slice Bn m.names.length cBn, .slice Bk q.len cBk] 25)).alloc (.cells #[.int .i64 l.kind, .int .i64 l.int, .int .i64 l.scale, .string (str l.text), .slice Cn l.names.length cCn, .slice Ck j.len cCk] 25)) = W0 := ⟨_, rfl⟩
  have ST0 : Hid (St w [⟨w.heap.size, n, k, An, cAn, Ak, cAk⟩, ⟨w.heap.size + 1, m, q, Bn, cBn, Bk, cBk⟩, ⟨w.heap.size + 1 + 1, l, j, Cn, cCn, Ck, cCk⟩] W0) := by
    have := (St.box_new (St.box_new (St.box_new (St.nil w) hv) hu) ht)
    show St _ _ _
    rw [← hW0]
    simpa [ncells, Nat.add_assoc] using this
  unfold ncells
  have HI0 : Hid (∀ W, Vo W (· < W.heap.size) n k (.agg #[.int .i64 n.kind, .int .i64 n.int, .int .i64 n.scale, .string (str n.text), .slice An n.names.length cAn, .slice Ak k.len cAk]) → Calls Tryd.prog 14 #[.agg #[.int .i64 n.kind, .int .i64 n.int, .int .i64 n.scale, .string (str n.text), .slice An n.names.length cAn, .slice Ak k.len cAk]] W (Ret (.bool (numB n k)) W)) := fun W h => is_any n k _ W h
  have HI1 : Hid (∀ W, Vo W (· < W.heap.size) m q (.agg #[.int .i64 m.kind, .int .i64 m.int, .int .i64 m.scale, .string (str m.text), .slice Bn m.names.length cBn, .slice Bk q.len cBk]) → Calls Tryd.prog 14 #[.agg #[.int .i64 m.kind, .int .i64 m.int, .int .i64 m.scale, .string (str m.text), .slice Bn m.names.length cBn, .slice Bk q.len cBk]] W (Ret (.bool (numB m q)) W)) := fun W h => is_any m q _ W h
  have HI2 : Hid (∀ W, Vo W (· < W.heap.size) l j (.agg #[.int .i64 l.kind, .int .i64 l.int, .int .i64 l.scale, .string (str l.text), .slice Cn l.names.length cCn, .slice Ck j.len cCk]) → Calls Tryd.prog 14 #[.agg #[.int .i64 l.kind, .int .i64 l.int, .int .i64 l.scale, .string (str l.text), .slice Cn l.names.length cCn, .slice Ck j.len cCk]] W (Ret (.bool (numB l j)) W)) := fun W h => is_any l j _ W h
  rw [h1] at HI0
  rw [h2] at HI1
  rw [h3] at HI2
  clear hv hu ht h1 h2 h3
  go_enter Tryd.func4, Tryd.ntmps4
  go_upto_region 1 with fail
  clear hW0
  obtain ⟨x0_0, x0_1, x0_2, x0_3, x0_4, x0_5⟩ : _ := ST0.out.six 0 rfl
  go_wp2_with fail
  refine (HI0.out _ (ST0.out.v 0 rfl)).mono ?_
  rintro e' u1 ⟨rfl, c1⟩
  have ST1 : Hid (St w [⟨w.heap.size, n, k, An, cAn, Ak, cAk⟩, ⟨w.heap.size + 1, m, q, Bn, cBn, Bk, cBk⟩, ⟨w.heap.size + 1 + 1, l, j, Cn, cCn, Ck, cCk⟩] u1) := ST0.out.step c1
  clear c1
  clear x0_0 x0_1 x0_2 x0_3 x0_4 x0_5
  obtain ⟨x1_0, x1_1, x1_2, x1_3, x1_4, x1_5⟩ : _ := ST1.out.six 1 rfl
  go_wp2_with fail
  refine (HI1.out _ (ST1.out.v 1 rfl)).mono ?_
  rintro e' u2 ⟨rfl, c2⟩
  have ST2 : Hid (St w [⟨w.heap.size, n, k, An, cAn, Ak, cAk⟩, ⟨w.heap.size + 1, m, q, Bn, cBn, Bk, cBk⟩, ⟨w.heap.size + 1 + 1, l, j, Cn, cCn, Ck, cCk⟩] u2) := ST1.out.step c2
  clear c2
  clear x1_0 x1_1 x1_2 x1_3 x1_4 x1_5
  obtain ⟨x2_0, x2_1, x2_2, x2_3, x2_4, x2_5⟩ : _ := ST2.out.six 2 rfl
  go_wp2_with fail
  refine (HI2.out _ (ST2.out.v 2 rfl)).mono ?_
  rintro e' u3 ⟨rfl, c3⟩
  have ST3 : Hid (St w [⟨w.heap.size, n, k, An, cAn, Ak, cAk⟩, ⟨w.heap.size + 1, m, q, Bn, cBn, Bk, cBk⟩, ⟨w.heap.size + 1 + 1, l, j, Cn, cCn, Ck, cCk⟩] u3) := ST2.out.step c3
  clear c3
  clear x2_0 x2_1 x2_2 x2_3 x2_4 x2_5
  go_wp2_with fail
  go_ret
  exact ⟨rfl, ST3.out.1⟩
set_option maxRecDepth 100000 in
set_option maxHeartbeats 6400000 in
theorem decimalSpreads_c (n : Nd) (k : F) (m : Nd) (q : F) (l : Nd) (j : F) (v : Value) (u : Value) (t : Value) (w : World) (hv : Vo w (· < w.heap.size) n k v) (hu : Vo w (· < w.heap.size) m q u) (ht : Vo w (· < w.heap.size) l j t) (htab : Lib.TabIs Tryd.prog w "internal/strconv.uint64pow10" .u64 Lib.pow10Tab) (h1 : numB n k = true) (h2 : numB m q = true) (h3 : numB l j = true) :
    Calls Tryd.prog 4 #[v, u, t] w (Ret (.bool true) w) := by
  obtain ⟨An, cAn, Ak, cAk, rfl, hok0, _, _, _, _⟩ := id hv
  obtain ⟨Bn, cBn, Bk, cBk, rfl, hok1, _, _, _, _⟩ := id hu
  obtain ⟨Cn, cCn, Ck, cCk, rfl, hok2, _, _, _, _⟩ := id ht
  obtain ⟨W0, hW0⟩ : ∃ W0, (((w.alloc (.cells #[.int .i64 n.kind, .int .i64 n.int, .int .i64 n.scale, .string (str n.text), .slice An n.names.length cAn, .slice Ak k.len cAk] 25)).alloc (.cells #[.int .i64 m.kind, .int .i64 m.int, .int .i64 m.scale, .string (str m.text), .slice Bn m.names.length cBn, .slice Bk q.len cBk] 25)).alloc (.cells #[.int .i64 l.kind, .int .i64 l.int, .int .i64 l.scale, .string (str l.text), .slice Cn l.names.length cCn, .slice Ck j.len cCk] 25)) = W0 := ⟨_, rfl⟩
  have ST0 : Hid (St w [⟨w.heap.size, n, k, An, cAn, Ak, cAk⟩, ⟨w.heap.size + 1, m, q, Bn, cBn, Bk, cBk⟩, ⟨w.heap.size + 1 + 1, l, j, Cn, cCn, Ck, cCk⟩] W0) := by
    have := (St.box_new (St.box_new (St.box_new (St.nil w) hv) hu) ht)
    show St _ _ _
    rw [← hW0]
    simpa [ncells, Nat.add_assoc] using this
  unfold ncells
  obtain ⟨hn0, rfl⟩ := numB_num hok0 h1
  obtain ⟨hn1, rfl⟩ := numB_num hok1 h2
  obtain ⟨hn2, rfl⟩ := numB_num hok2 h3
  have HI0 : Hid (∀ W, Vo W (· < W.heap.size) n .nil (.agg #[.int .i64 n.kind, .int .i64 n.int, .int .i64 n.scale, .string (str n.text), .slice An n.names.length cAn, .slice Ak F.nil.len cAk]) → Calls Tryd.prog 14 #[.agg #[.int .i64 n.kind, .int .i64 n.int, .int .i64 n.scale, .string (str n.text), .slice An n.names.length cAn, .slice Ak F.nil.len cAk]] W (Ret (.bool true) W)) := fun W h => by rw [← h1]; exact is_any n .nil _ W h
  have HI1 : Hid (∀ W, Vo W (· < W.heap.size) m .nil (.agg #[.int .i64 m.kind, .int .i64 m.int, .int .i64 m.scale, .string (str m.text), .slice Bn m.names.length cBn, .slice Bk F.nil.len cBk]) → Calls Tryd.prog 14 #[.agg #[.int .i64 m.kind, .int .i64 m.int, .int .i64 m.scale, .string (str m.text), .slice Bn m.names.length cBn, .slice Bk F.nil.len cBk]] W (Ret (.bool true) W)) := fun W h => by rw [← h2]; exact is_any m .nil _ W h
  have HI2 : Hid (∀ W, Vo W (· < W.heap.size) l .nil (.agg #[.int .i64 l.kind, .int .i64 l.int, .int .i64 l.scale, .string (str l.text), .slice Cn l.names.length cCn, .slice Ck F.nil.len cCk]) → Calls Tryd.prog 14 #[.agg #[.int .i64 l.kind, .int .i64 l.int, .int .i64 l.scale, .string (str l.text), .slice Cn l.names.length cCn, .slice Ck F.nil.len cCk]] W (Ret (.bool true) W)) := fun W h => by rw [← h3]; exact is_any l .nil _ W h
  have HS : Hid (∀ W, Vo W (· < W.heap.size) m .nil (.agg #[.int .i64 m.kind, .int .i64 m.int, .int .i64 m.scale, .string (str m.text), .slice Bn m.names.length cBn, .slice Bk F.nil.len cBk]) → Vo W (· < W.heap.size) l .nil (.agg #[.int .i64 l.kind, .int .i64 l.int, .int .i64 l.scale, .string (str l.text), .slice Cn l.names.length cCn, .slice Ck F.nil.len cCk]) → Calls Tryd.prog 15 #[.agg #[.int .i64 m.kind, .int .i64 m.int, .int .i64 m.scale, .string (str m.text), .slice Bn m.names.length cBn, .slice Bk F.nil.len cBk], .agg #[.int .i64 l.kind, .int .i64 l.int, .int .i64 l.scale, .string (str l.text), .slice Cn l.names.length cCn, .slice Ck F.nil.len cCk]] W (Ret (.tuple #[.agg #[.int .i64 (addR m .nil l .nil).1.kind, .int .i64 (addR m .nil l .nil).1.int, .int .i64 (addR m .nil l .nil).1.scale, .string (str (addR m .nil l .nil).1.text), .slice none 0 0, .slice none 0 0], .int .i64 (addR m .nil l .nil).2]) W)) := fun W h g => addR_any _ _ _ _ _ _ W h g
  have HP : Hid (∀ W, Vo W (· < W.heap.size) n .nil (.agg #[.int .i64 n.kind, .int .i64 n.int, .int .i64 n.scale, .string (str n.text), .slice An n.names.length cAn, .slice Ak F.nil.len cAk]) → Vo W (· < W.heap.size) m .nil (.agg #[.int .i64 m.kind, .int .i64 m.int, .int .i64 m.scale, .string (str m.text), .slice Bn m.names.length cBn, .slice Bk F.nil.len cBk]) → Calls Tryd.prog 16 #[.agg #[.int .i64 n.kind, .int .i64 n.int, .int .i64 n.scale, .string (str n.text), .slice An n.names.length cAn, .slice Ak F.nil.len cAk], .agg #[.int .i64 m.kind, .int .i64 m.int, .int .i64 m.scale, .string (str m.text), .slice Bn m.names.length cBn, .slice Bk F.nil.len cBk]] W (Ret (.tuple #[.agg #[.int .i64 (mulR n .nil m .nil).1.kind, .int .i64 (mulR n .nil m .nil).1.int, .int .i64 (mulR n .nil m .nil).1.scale, .string (str (mulR n .nil m .nil).1.text), .slice none 0 0, .slice none 0 0], .int .i64 (mulR n .nil m .nil).2]) W)) := fun W h g => mulR_any _ _ _ _ _ _ W h g
  have HQ : Hid (∀ W, Vo W (· < W.heap.size) n .nil (.agg #[.int .i64 n.kind, .int .i64 n.int, .int .i64 n.scale, .string (str n.text), .slice An n.names.length cAn, .slice Ak F.nil.len cAk]) → Vo W (· < W.heap.size) l .nil (.agg #[.int .i64 l.kind, .int .i64 l.int, .int .i64 l.scale, .string (str l.text), .slice Cn l.names.length cCn, .slice Ck F.nil.len cCk]) → Calls Tryd.prog 16 #[.agg #[.int .i64 n.kind, .int .i64 n.int, .int .i64 n.scale, .string (str n.text), .slice An n.names.length cAn, .slice Ak F.nil.len cAk], .agg #[.int .i64 l.kind, .int .i64 l.int, .int .i64 l.scale, .string (str l.text), .slice Cn l.names.length cCn, .slice Ck F.nil.len cCk]] W (Ret (.tuple #[.agg #[.int .i64 (mulR n .nil l .nil).1.kind, .int .i64 (mulR n .nil l .nil).1.int, .int .i64 (mulR n .nil l .nil).1.scale, .string (str (mulR n .nil l .nil).1.text), .slice none 0 0, .slice none 0 0], .int .i64 (mulR n .nil l .nil).2]) W)) := fun W h g => mulR_any _ _ _ _ _ _ W h g
  have PS : Hid (plainN (addR m .nil l .nil).1) := addR_plain _ _ _ _
  have PP : Hid (plainN (mulR n .nil m .nil).1) := mulR_plain _ _ _ _
  have PQ : Hid (plainN (mulR n .nil l .nil).1) := mulR_plain _ _ _ _
  have HL : Hid ((addR m .nil l .nil).2 = 0 → (mulR n .nil m .nil).2 = 0 → (mulR n .nil l .nil).2 = 0 → mulR n .nil (addR m .nil l .nil).1 .nil = addR (mulR n .nil m .nil).1 .nil (mulR n .nil l .nil).1 .nil ∧ ((addR (mulR n .nil m .nil).1 .nil (mulR n .nil l .nil).1 .nil).2 = 0 ∨ (addR (mulR n .nil m .nil).1 .nil (mulR n .nil l .nil).1 .nil).2 = 10)) := fun a b c => ⟨spread_law hn0 hn1 hn2 a b c, by rw [← spread_law hn0 hn1 hn2 a b c]; exact mulR_err hn0 (addR_isNum hn1 hn2 a)⟩
  generalize (addR m .nil l .nil).1 = s at *
  generalize (addR m .nil l .nil).2 = e at *
  generalize (mulR n .nil m .nil).1 = p at *
  generalize (mulR n .nil m .nil).2 = f at *
  generalize (mulR n .nil l .nil).1 = r at *
  generalize (mulR n .nil l .nil).2 = g at *
  have HK : Hid (∀ w', Below w.heap.size w w' → Calls Tryd.prog 13 #[] w' (Ret (.bool true) w')) := fun w' hb => known6_any w' (tab_below htab hb)
  clear hv hu ht htab h1 h2 h3 hn0 hn1 hn2 hok0 hok1 hok2
  go_enter Tryd.func4, Tryd.ntmps4
  go_upto_region 1 with fail
  clear hW0
  obtain ⟨x0_0, x0_1, x0_2, x0_3, x0_4, x0_5⟩ : _ := ST0.out.six 0 rfl
  go_wp2_with fail
  refine (HI0.out _ (ST0.out.v 0 rfl)).mono ?_
  rintro e' u1 ⟨rfl, c1⟩
  have ST1 : Hid (St w [⟨w.heap.size, n, .nil, An, cAn, Ak, cAk⟩, ⟨w.heap.size + 1, m, .nil, Bn, cBn, Bk, cBk⟩, ⟨w.heap.size + 1 + 1, l, .nil, Cn, cCn, Ck, cCk⟩] u1) := ST0.out.step c1
  clear c1
  clear x0_0 x0_1 x0_2 x0_3 x0_4 x0_5
  obtain ⟨x1_0, x1_1, x1_2, x1_3, x1_4, x1_5⟩ : _ := ST1.out.six 1 rfl
  go_wp2_with fail
  refine (HI1.out _ (ST1.out.v 1 rfl)).mono ?_
  rintro e' u2 ⟨rfl, c2⟩
  have ST2 : Hid (St w [⟨w.heap.size, n, .nil, An, cAn, Ak, cAk⟩, ⟨w.heap.size + 1, m, .nil, Bn, cBn, Bk, cBk⟩, ⟨w.heap.size + 1 + 1, l, .nil, Cn, cCn, Ck, cCk⟩] u2) := ST1.out.step c2
  clear c2
  clear x1_0 x1_1 x1_2 x1_3 x1_4 x1_5
  obtain ⟨x2_0, x2_1, x2_2, x2_3, x2_4, x2_5⟩ : _ := ST2.out.six 2 rfl
  go_wp2_with fail
  refine (HI2.out _ (ST2.out.v 2 rfl)).mono ?_
  rintro e' u3 ⟨rfl, c3⟩
  have ST3 : Hid (St w [⟨w.heap.size, n, .nil, An, cAn, Ak, cAk⟩, ⟨w.heap.size + 1, m, .nil, Bn, cBn, Bk, cBk⟩, ⟨w.heap.size + 1 + 1, l, .nil, Cn, cCn, Ck, cCk⟩] u3) := ST2.out.step c3
  clear c3
  clear x2_0 x2_1 x2_2 x2_3 x2_4 x2_5
  obtain ⟨x1_0, x1_1, x1_2, x1_3, x1_4, x1_5⟩ : _ := ST3.out.six 1 rfl
  obtain ⟨x2_0, x2_1, x2_2, x2_3, x2_4, x2_5⟩ : _ := ST3.out.six 2 rfl
  go_upto_region 4 with (go_at_call 15; refine (HS.out _ (ST3.out.v 1 rfl) (ST3.out.v 2 rfl)).mono ?_; rintro e' u4 ⟨rfl, c4⟩)
  obtain ⟨W4, hW4⟩ : ∃ W4, u4.alloc (.cells #[.int .i64 s.kind, .int .i64 s.int, .int .i64 s.scale, .string (str s.text), .slice none 0 0, .slice none 0 0] 25) = W4 := ⟨_, rfl⟩
  rw [hW4]
  have ST4 : Hid (St w [⟨w.heap.size, n, .nil, An, cAn, Ak, cAk⟩, ⟨w.heap.size + 1, m, .nil, Bn, cBn, Bk, cBk⟩, ⟨w.heap.size + 1 + 1, l, .nil, Cn, cCn, Ck, cCk⟩, ⟨u4.heap.size, s, .nil, none, 0, none, 0⟩] W4) := by show St _ _ _; rw [← hW4]; exact (ST3.out.step c4).put2 PS.out
  clear hW4 c4
  clear x1_0 x1_1 x1_2 x1_3 x1_4 x1_5 x2_0 x2_1 x2_2 x2_3 x2_4 x2_5
  obtain ⟨x0_0, x0_1, x0_2, x0_3, x0_4, x0_5⟩ : _ := ST4.out.six 0 rfl
  obtain ⟨x1_0, x1_1, x1_2, x1_3, x1_4, x1_5⟩ : _ := ST4.out.six 1 rfl
  go_upto_region 5 with (go_at_call 16; refine (HP.out _ (ST4.out.v 0 rfl) (ST4.out.v 1 rfl)).mono ?_; rintro e' u5 ⟨rfl, c5⟩)
  obtain ⟨W5, hW5⟩ : ∃ W5, u5.alloc (.cells #[.int .i64 p.kind, .int .i64 p.int, .int .i64 p.scale, .string (str p.text), .slice none 0 0, .slice none 0 0] 25) = W5 := ⟨_, rfl⟩
  rw [hW5]
  have ST5 : Hid (St w [⟨w.heap.size, n, .nil, An, cAn, Ak, cAk⟩, ⟨w.heap.size + 1, m, .nil, Bn, cBn, Bk, cBk⟩, ⟨w.heap.size + 1 + 1, l, .nil, Cn, cCn, Ck, cCk⟩, ⟨u4.heap.size, s, .nil, none, 0, none, 0⟩, ⟨u5.heap.size, p, .nil, none, 0, none, 0⟩] W5) := by show St _ _ _; rw [← hW5]; exact (ST4.out.step c5).put2 PP.out
  clear hW5 c5
  clear x0_0 x0_1 x0_2 x0_3 x0_4 x0_5 x1_0 x1_1 x1_2 x1_3 x1_4 x1_5
  obtain ⟨x0_0, x0_1, x0_2, x0_3, x0_4, x0_5⟩ : _ := ST5.out.six 0 rfl
  obtain ⟨x2_0, x2_1, x2_2, x2_3, x2_4, x2_5⟩ : _ := ST5.out.six 2 rfl
  go_upto_region 6 with (go_at_call 16; refine (HQ.out _ (ST5.out.v 0 rfl) (ST5.out.v 2 rfl)).mono ?_; rintro e' u6 ⟨rfl, c6⟩)
  obtain ⟨W6, hW6⟩ : ∃ W6, u6.alloc (.cells #[.int .i64 r.kind, .int .i64 r.int, .int .i64 r.scale, .string (str r.text), .slice none 0 0, .slice none 0 0] 25) = W6 := ⟨_, rfl⟩
  rw [hW6]
  have ST6 : Hid (St w [⟨w.heap.size, n, .nil, An, cAn, Ak, cAk⟩, ⟨w.heap.size + 1, m, .nil, Bn, cBn, Bk, cBk⟩, ⟨w.heap.size + 1 + 1, l, .nil, Cn, cCn, Ck, cCk⟩, ⟨u4.heap.size, s, .nil, none, 0, none, 0⟩, ⟨u5.heap.size, p, .nil, none, 0, none, 0⟩, ⟨u6.heap.size, r, .nil, none, 0, none, 0⟩] W6) := by show St _ _ _; rw [← hW6]; exact (ST5.out.step c6).put2 PQ.out
  clear hW6 c6
  clear x0_0 x0_1 x0_2 x0_3 x0_4 x0_5 x2_0 x2_1 x2_2 x2_3 x2_4 x2_5
  by_cases z_e : e = 0
  · have y_e : (e == 0) = true := by simpa using z_e
    by_cases z_f : f = 0
    · have y_f : (f == 0) = true := by simpa using z_f
      by_cases z_g : g = 0
      · have y_g : (g == 0) = true := by simpa using z_g
        obtain ⟨hl1, hl2⟩ := HL.out z_e z_f z_g
        subst z_e z_f z_g
        clear y_e y_f y_g HL
        have HX : Hid (∀ W, Vo W (· < W.heap.size) n .nil (.agg #[.int .i64 n.kind, .int .i64 n.int, .int .i64 n.scale, .string (str n.text), .slice An n.names.length cAn, .slice Ak F.nil.len cAk]) → Vo W (· < W.heap.size) s .nil (.agg #[.int .i64 s.kind, .int .i64 s.int, .int .i64 s.scale, .string (str s.text), .slice none 0 0, .slice none 0 0]) → Calls Tryd.prog 16 #[.agg #[.int .i64 n.kind, .int .i64 n.int, .int .i64 n.scale, .string (str n.text), .slice An n.names.length cAn, .slice Ak F.nil.len cAk], .agg #[.int .i64 s.kind, .int .i64 s.int, .int .i64 s.scale, .string (str s.text), .slice none 0 0, .slice none 0 0]] W (Ret (.tuple #[.agg #[.int .i64 (addR p .nil r .nil).1.kind, .int .i64 (addR p .nil r .nil).1.int, .int .i64 (addR p .nil r .nil).1.scale, .string (str (addR p .nil r .nil).1.text), .slice none 0 0, .slice none 0 0], .int .i64 (addR p .nil r .nil).2]) W)) := fun W h g => by rw [← hl1]; exact mulR_any _ _ _ _ _ _ W h g
        have HY : Hid (∀ W, Vo W (· < W.heap.size) p .nil (.agg #[.int .i64 p.kind, .int .i64 p.int, .int .i64 p.scale, .string (str p.text), .slice none 0 0, .slice none 0 0]) → Vo W (· < W.heap.size) r .nil (.agg #[.int .i64 r.kind, .int .i64 r.int, .int .i64 r.scale, .string (str r.text), .slice none 0 0, .slice none 0 0]) → Calls Tryd.prog 15 #[.agg #[.int .i64 p.kind, .int .i64 p.int, .int .i64 p.scale, .string (str p.text), .slice none 0 0, .slice none 0 0], .agg #[.int .i64 r.kind, .int .i64 r.int, .int .i64 r.scale, .string (str r.text), .slice none 0 0, .slice none 0 0]] W (Ret (.tuple #[.agg #[.int .i64 (addR p .nil r .nil).1.kind, .int .i64 (addR p .nil r .nil).1.int, .int .i64 (addR p .nil r .nil).1.scale, .string (str (addR p .nil r .nil).1.text), .slice none 0 0, .slice none 0 0], .int .i64 (addR p .nil r .nil).2]) W)) := fun W h g => addR_any _ _ _ _ _ _ W h g
        have PY : Hid (plainN (addR p .nil r .nil).1) := addR_plain _ _ _ _
        clear hl1
        generalize (addR p .nil r .nil).1 = x at *
        generalize (addR p .nil r .nil).2 = i at *
        have Vs : Hid (∀ W : World, Vo W (· < W.heap.size) s .nil (.agg #[.int .i64 s.kind, .int .i64 s.int, .int .i64 s.scale, .string (str s.text), .slice none 0 0, .slice none 0 0])) := fun W => plain_vo PS.out W _
        have Vp : Hid (∀ W : World, Vo W (· < W.heap.size) p .nil (.agg #[.int .i64 p.kind, .int .i64 p.int, .int .i64 p.scale, .string (str p.text), .slice none 0 0, .slice none 0 0])) := fun W => plain_vo PP.out W _
        have Vr : Hid (∀ W : World, Vo W (· < W.heap.size) r .nil (.agg #[.int .i64 r.kind, .int .i64 r.int, .int .i64 r.scale, .string (str r.text), .slice none 0 0, .slice none 0 0])) := fun W => plain_vo PQ.out W _
        have HE : Hid (∀ W, Calls Tryd.prog 17 #[.agg #[.int .i64 x.kind, .int .i64 x.int, .int .i64 x.scale, .string (str x.text), .slice none 0 0, .slice none 0 0], .agg #[.int .i64 x.kind, .int .i64 x.int, .int .i64 x.scale, .string (str x.text), .slice none 0 0, .slice none 0 0]] W (Ret (.bool true) W)) := fun W => eq_self PY.out W
        have HI' := Lib.hid hl2
        clear hl2
        obtain ⟨x0_0, x0_1, x0_2, x0_3, x0_4, x0_5⟩ : _ := ST6.out.six 0 rfl
        obtain ⟨x3_0, x3_1, x3_2, x3_3, x3_4, x3_5⟩ : _ := ST6.out.six2 3 rfl PS.out
        go_upto_region 9 with (go_at_call 16; refine (HX.out _ (ST6.out.v 0 rfl) (Vs.out _)).mono ?_; rintro e' u7 ⟨rfl, c7⟩)
        obtain ⟨W7, hW7⟩ : ∃ W7, u7.alloc (.cells #[.int .i64 x.kind, .int .i64 x.int, .int .i64 x.scale, .string (str x.text), .slice none 0 0, .slice none 0 0] 25) = W7 := ⟨_, rfl⟩
        rw [hW7]
        have ST7 : Hid (St w [⟨w.heap.size, n, .nil, An, cAn, Ak, cAk⟩, ⟨w.heap.size + 1, m, .nil, Bn, cBn, Bk, cBk⟩, ⟨w.heap.size + 1 + 1, l, .nil, Cn, cCn, Ck, cCk⟩, ⟨u4.heap.size, s, .nil, none, 0, none, 0⟩, ⟨u5.heap.size, p, .nil, none, 0, none, 0⟩, ⟨u6.heap.size, r, .nil, none, 0, none, 0⟩, ⟨u7.heap.size, x, .nil, none, 0, none, 0⟩] W7) := by show St _ _ _; rw [← hW7]; exact (ST6.out.step c7).put2 PY.out
        clear hW7 c7
        clear x0_0 x0_1 x0_2 x0_3 x0_4 x0_5 x3_0 x3_1 x3_2 x3_3 x3_4 x3_5
        obtain ⟨x4_0, x4_1, x4_2, x4_3, x4_4, x4_5⟩ : _ := ST7.out.six2 4 rfl PP.out
        obtain ⟨x5_0, x5_1, x5_2, x5_3, x5_4, x5_5⟩ : _ := ST7.out.six2 5 rfl PQ.out
        go_upto_region 10 with (go_at_call 15; refine (HY.out _ (Vp.out _) (Vr.out _)).mono ?_; rintro e' u8 ⟨rfl, c8⟩)
        obtain ⟨W8, hW8⟩ : ∃ W8, u8.alloc (.cells #[.int .i64 x.kind, .int .i64 x.int, .int .i64 x.scale, .string (str x.text), .slice none 0 0, .slice none 0 0] 25) = W8 := ⟨_, rfl⟩
        rw [hW8]
        have ST8 : Hid (St w [⟨w.heap.size, n, .nil, An, cAn, Ak, cAk⟩, ⟨w.heap.size + 1, m, .nil, Bn, cBn, Bk, cBk⟩, ⟨w.heap.size + 1 + 1, l, .nil, Cn, cCn, Ck, cCk⟩, ⟨u4.heap.size, s, .nil, none, 0, none, 0⟩, ⟨u5.heap.size, p, .nil, none, 0, none, 0⟩, ⟨u6.heap.size, r, .nil, none, 0, none, 0⟩, ⟨u7.heap.size, x, .nil, none, 0, none, 0⟩, ⟨u8.heap.size, x, .nil, none, 0, none, 0⟩] W8) := by show St _ _ _; rw [← hW8]; exact (ST7.out.step c8).put2 PY.out
        clear hW8 c8
        clear x4_0 x4_1 x4_2 x4_3 x4_4 x4_5 x5_0 x5_1 x5_2 x5_3 x5_4 x5_5
        rcases HI'.out with rfl | rfl
        · clear HI'
          obtain ⟨x6_0, x6_1, x6_2, x6_3, x6_4, x6_5⟩ : _ := ST8.out.six2 6 rfl PY.out
          obtain ⟨x7_0, x7_1, x7_2, x7_3, x7_4, x7_5⟩ : _ := ST8.out.six2 7 rfl PY.out
          go_wp2_with fail
          refine (HE.out _).mono ?_
          rintro e' u9 ⟨rfl, c9⟩
          have ST9 : Hid (St w [⟨w.heap.size, n, .nil, An, cAn, Ak, cAk⟩, ⟨w.heap.size + 1, m, .nil, Bn, cBn, Bk, cBk⟩, ⟨w.heap.size + 1 + 1, l, .nil, Cn, cCn, Ck, cCk⟩, ⟨u4.heap.size, s, .nil, none, 0, none, 0⟩, ⟨u5.heap.size, p, .nil, none, 0, none, 0⟩, ⟨u6.heap.size, r, .nil, none, 0, none, 0⟩, ⟨u7.heap.size, x, .nil, none, 0, none, 0⟩, ⟨u8.heap.size, x, .nil, none, 0, none, 0⟩] u9) := ST8.out.step c9
          clear c9
          clear x6_0 x6_1 x6_2 x6_3 x6_4 x6_5 x7_0 x7_1 x7_2 x7_3 x7_4 x7_5
          go_wp2_with fail
          refine (HK.out _ ST9.out.1).mono ?_
          rintro e' u10 ⟨rfl, c10⟩
          have ST10 : Hid (St w [⟨w.heap.size, n, .nil, An, cAn, Ak, cAk⟩, ⟨w.heap.size + 1, m, .nil, Bn, cBn, Bk, cBk⟩, ⟨w.heap.size + 1 + 1, l, .nil, Cn, cCn, Ck, cCk⟩, ⟨u4.heap.size, s, .nil, none, 0, none, 0⟩, ⟨u5.heap.size, p, .nil, none, 0, none, 0⟩, ⟨u6.heap.size, r, .nil, none, 0, none, 0⟩, ⟨u7.heap.size, x, .nil, none, 0, none, 0⟩, ⟨u8.heap.size, x, .nil, none, 0, none, 0⟩] u10) := ST9.out.step c10
          clear c10
          go_wp2_with fail
          go_ret
          exact ⟨rfl, ST10.out.1⟩
        · clear HI'
          go_wp2_with fail
          refine (HK.out _ ST8.out.1).mono ?_
          rintro e' u9 ⟨rfl, c9⟩
          have ST9 : Hid (St w [⟨w.heap.size, n, .nil, An, cAn, Ak, cAk⟩, ⟨w.heap.size + 1, m, .nil, Bn, cBn, Bk, cBk⟩, ⟨w.heap.size + 1 + 1, l, .nil, Cn, cCn, Ck, cCk⟩, ⟨u4.heap.size, s, .nil, none, 0, none, 0⟩, ⟨u5.heap.size, p, .nil, none, 0, none, 0⟩, ⟨u6.heap.size, r, .nil, none, 0, none, 0⟩, ⟨u7.heap.size, x, .nil, none, 0, none, 0⟩, ⟨u8.heap.size, x, .nil, none, 0, none, 0⟩] u9) := ST8.out.step c9
          clear c9
          go_wp2_with fail
          go_ret
          exact ⟨rfl, ST9.out.1⟩
      · have y_g : (g == 0) = false := by simpa using z_g
        clear HL
        go_wp2_with fail
        refine (HK.out _ ST6.out.1).mono ?_
        rintro e' u7 ⟨rfl, c7⟩
        have ST7 : Hid (St w [⟨w.heap.size, n, .nil, An, cAn, Ak, cAk⟩, ⟨w.heap.size + 1, m, .nil, Bn, cBn, Bk, cBk⟩, ⟨w.heap.size + 1 + 1, l, .nil, Cn, cCn, Ck, cCk⟩, ⟨u4.heap.size, s, .nil, none, 0, none, 0⟩, ⟨u5.heap.size, p, .nil, none, 0, none, 0⟩, ⟨u6.heap.size, r, .nil, none, 0, none, 0⟩] u7) := ST6.out.step c7
        clear c7
        go_wp2_with fail
        go_ret
        exact ⟨rfl, ST7.out.1⟩
    · have y_f : (f == 0) = false := by simpa using z_f
      clear HL
      go_wp2_with fail
      refine (HK.out _ ST6.out.1).mono ?_
      rintro e' u7 ⟨rfl, c7⟩
      have ST7 : Hid (St w [⟨w.heap.size, n, .nil, An, cAn, Ak, cAk⟩, ⟨w.heap.size + 1, m, .nil, Bn, cBn, Bk, cBk⟩, ⟨w.heap.size + 1 + 1, l, .nil, Cn, cCn, Ck, cCk⟩, ⟨u4.heap.size, s, .nil, none, 0, none, 0⟩, ⟨u5.heap.size, p, .nil, none, 0, none, 0⟩, ⟨u6.heap.size, r, .nil, none, 0, none, 0⟩] u7) := ST6.out.step c7
      clear c7
      go_wp2_with fail
      go_ret
      exact ⟨rfl, ST7.out.1⟩
  · have y_e : (e == 0) = false := by simpa using z_e
    clear HL
    go_wp2_with fail
    refine (HK.out _ ST6.out.1).mono ?_
    rintro e' u7 ⟨rfl, c7⟩
    have ST7 : Hid (St w [⟨w.heap.size, n, .nil, An, cAn, Ak, cAk⟩, ⟨w.heap.size + 1, m, .nil, Bn, cBn, Bk, cBk⟩, ⟨w.heap.size + 1 + 1, l, .nil, Cn, cCn, Ck, cCk⟩, ⟨u4.heap.size, s, .nil, none, 0, none, 0⟩, ⟨u5.heap.size, p, .nil, none, 0, none, 0⟩, ⟨u6.heap.size, r, .nil, none, 0, none, 0⟩] u7) := ST6.out.step c7
    clear c7
    go_wp2_with fail
    go_ret
    exact ⟨rfl, ST7.out.1⟩
theorem decimalSpreads_any (n : Nd) (k : F) (m : Nd) (q : F) (l : Nd) (j : F) (v : Value) (u : Value) (t : Value) (w : World) (hv : Vo w (· < w.heap.size) n k v) (hu : Vo w (· < w.heap.size) m q u) (ht : Vo w (· < w.heap.size) l j t) (htab : Lib.TabIs Tryd.prog w "internal/strconv.uint64pow10" .u64 Lib.pow10Tab) :
    Calls Tryd.prog 4 #[v, u, t] w (Ret (.bool true) w) := by
  cases h1 : numB n k with
  | false => exact decimalSpreads_0 n k m q l j v u t w hv hu ht h1
  | true =>
    cases h2 : numB m q with
    | false => exact decimalSpreads_1 n k m q l j v u t w hv hu ht h1 h2
    | true =>
      cases h3 : numB l j with
      | false => exact decimalSpreads_2 n k m q l j v u t w hv hu ht h1 h2 h3
      | true =>
        exact decimalSpreads_c n k m q l j v u t w hv hu ht htab h1 h2 h3

end Go.Proofs.YtfcbcbpnlnkpcaaDoor

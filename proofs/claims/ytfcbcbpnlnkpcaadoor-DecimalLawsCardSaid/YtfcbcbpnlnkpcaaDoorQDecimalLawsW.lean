/- DecimalLaws: the walk of the law. (Printed by gen/dlaws.py.) -/
import Derived.Test.YtfcbcbpnlnkpcaaDoorQKnown6
import Derived.Test.YtfcbcbpnlnkpcaaDoorQAn
import Derived.Test.YtfcbcbpnlnkpcaaDoorQLawp6
import Derived.Test.YtfcbcbpnlnkpcaaDoorQDecSub
import Derived.Test.YtfcbcbpnlnkpcaaDoorQDecMul
namespace Go.Proofs.YtfcbcbpnlnkpcaaDoor
set_option linter.all false
open Go.RowKit

set_option maxRecDepth 100000 in
set_option maxHeartbeats 3200000 in
theorem decimalLaws_a (n : Nd) (k : F) (m : Nd) (q : F) (v u : Value) (w : World) (hv : Vo w (· < w.heap.size) n k v) (hu : Vo w (· < w.heap.size) m q u) (htab : Lib.TabIs Tryd.prog w "internal/strconv.uint64pow10" .u64 Lib.pow10Tab) (h1 : numB n k = false) :
    Calls Tryd.prog 5 #[v, u] w (Ret (.bool true) w) := by
  obtain ⟨An, cAn, Ak, cAk, rfl, hok1, _, _, _, _⟩ := id hv
  obtain ⟨Bn, cBn, Bk, cBk, rfl, hok2, _, _, _, _⟩ := id hu
  obtain ⟨W0, hW0⟩ : ∃ W0, (w.alloc (.cells #[.int .i64 n.kind, .int .i64 n.int, .int .i64 n.scale, .string (str n.text), .slice An n.names.length cAn, .slice Ak k.len cAk] 25)).alloc (.cells #[.int .i64 m.kind, .int .i64 m.int, .int .i64 m.scale, .string (str m.text), .slice Bn m.names.length cBn, .slice Bk q.len cBk] 25) = W0 := ⟨_, rfl⟩
  have ST0 : Hid (St w [⟨w.heap.size, n, k, An, cAn, Ak, cAk⟩, ⟨w.heap.size + 1, m, q, Bn, cBn, Bk, cBk⟩] W0) := by
    have := St.box_new (St.box_new (St.nil w) hv) hu
    show St _ _ _
    rw [← hW0]
    simpa [ncells] using this
  unfold ncells
  have HI : Hid (∀ W, Vo W (· < W.heap.size) n k (.agg #[.int .i64 n.kind, .int .i64 n.int, .int .i64 n.scale, .string (str n.text), .slice An n.names.length cAn, .slice Ak k.len cAk]) → Calls Tryd.prog 14 #[.agg #[.int .i64 n.kind, .int .i64 n.int, .int .i64 n.scale, .string (str n.text), .slice An n.names.length cAn, .slice Ak k.len cAk]] W (Ret (.bool (numB n k)) W)) := fun W h => is_any n k _ W h
  have HJ : Hid (∀ W, Vo W (· < W.heap.size) m q (.agg #[.int .i64 m.kind, .int .i64 m.int, .int .i64 m.scale, .string (str m.text), .slice Bn m.names.length cBn, .slice Bk q.len cBk]) → Calls Tryd.prog 14 #[.agg #[.int .i64 m.kind, .int .i64 m.int, .int .i64 m.scale, .string (str m.text), .slice Bn m.names.length cBn, .slice Bk q.len cBk]] W (Ret (.bool (numB m q)) W)) := fun W h => is_any m q _ W h
  rw [h1] at HI
  clear hv hu htab h1
  go_enter Tryd.func5, Tryd.ntmps5
  go_upto_region 1 with fail
  clear hW0
  obtain ⟨x0_0, x0_1, x0_2, x0_3, x0_4, x0_5⟩ : _ := ST0.out.six 0 rfl
  go_wp2_with fail
  refine (HI.out _ (ST0.out.v 0 rfl)).mono ?_
  rintro e' u1 ⟨rfl, c1⟩
  have ST1 : Hid (St w [⟨w.heap.size, n, k, An, cAn, Ak, cAk⟩, ⟨w.heap.size + 1, m, q, Bn, cBn, Bk, cBk⟩] u1) := ST0.out.step c1
  clear c1
  clear x0_0 x0_1 x0_2 x0_3 x0_4 x0_5
  go_wp2_with fail
  go_ret
  exact ⟨rfl, ST1.out.1⟩
set_option maxRecDepth 100000 in
set_option maxHeartbeats 3200000 in
theorem decimalLaws_b (n : Nd) (k : F) (m : Nd) (q : F) (v u : Value) (w : World) (hv : Vo w (· < w.heap.size) n k v) (hu : Vo w (· < w.heap.size) m q u) (htab : Lib.TabIs Tryd.prog w "internal/strconv.uint64pow10" .u64 Lib.pow10Tab) (h1 : numB n k = true) (h2 : numB m q = false) :
    Calls Tryd.prog 5 #[v, u] w (Ret (.bool true) w) := by
  obtain ⟨An, cAn, Ak, cAk, rfl, hok1, _, _, _, _⟩ := id hv
  obtain ⟨Bn, cBn, Bk, cBk, rfl, hok2, _, _, _, _⟩ := id hu
  obtain ⟨W0, hW0⟩ : ∃ W0, (w.alloc (.cells #[.int .i64 n.kind, .int .i64 n.int, .int .i64 n.scale, .string (str n.text), .slice An n.names.length cAn, .slice Ak k.len cAk] 25)).alloc (.cells #[.int .i64 m.kind, .int .i64 m.int, .int .i64 m.scale, .string (str m.text), .slice Bn m.names.length cBn, .slice Bk q.len cBk] 25) = W0 := ⟨_, rfl⟩
  have ST0 : Hid (St w [⟨w.heap.size, n, k, An, cAn, Ak, cAk⟩, ⟨w.heap.size + 1, m, q, Bn, cBn, Bk, cBk⟩] W0) := by
    have := St.box_new (St.box_new (St.nil w) hv) hu
    show St _ _ _
    rw [← hW0]
    simpa [ncells] using this
  unfold ncells
  have HI : Hid (∀ W, Vo W (· < W.heap.size) n k (.agg #[.int .i64 n.kind, .int .i64 n.int, .int .i64 n.scale, .string (str n.text), .slice An n.names.length cAn, .slice Ak k.len cAk]) → Calls Tryd.prog 14 #[.agg #[.int .i64 n.kind, .int .i64 n.int, .int .i64 n.scale, .string (str n.text), .slice An n.names.length cAn, .slice Ak k.len cAk]] W (Ret (.bool (numB n k)) W)) := fun W h => is_any n k _ W h
  have HJ : Hid (∀ W, Vo W (· < W.heap.size) m q (.agg #[.int .i64 m.kind, .int .i64 m.int, .int .i64 m.scale, .string (str m.text), .slice Bn m.names.length cBn, .slice Bk q.len cBk]) → Calls Tryd.prog 14 #[.agg #[.int .i64 m.kind, .int .i64 m.int, .int .i64 m.scale, .string (str m.text), .slice Bn m.names.length cBn, .slice Bk q.len cBk]] W (Ret (.bool (numB m q)) W)) := fun W h => is_any m q _ W h
  rw [h1] at HI
  rw [h2] at HJ
  clear hv hu htab h1 h2
  go_enter Tryd.func5, Tryd.ntmps5
  go_upto_region 1 with fail
  clear hW0
  obtain ⟨x0_0, x0_1, x0_2, x0_3, x0_4, x0_5⟩ : _ := ST0.out.six 0 rfl
  go_wp2_with fail
  refine (HI.out _ (ST0.out.v 0 rfl)).mono ?_
  rintro e' u1 ⟨rfl, c1⟩
  have ST1 : Hid (St w [⟨w.heap.size, n, k, An, cAn, Ak, cAk⟩, ⟨w.heap.size + 1, m, q, Bn, cBn, Bk, cBk⟩] u1) := ST0.out.step c1
  clear c1
  clear x0_0 x0_1 x0_2 x0_3 x0_4 x0_5
  obtain ⟨x1_0, x1_1, x1_2, x1_3, x1_4, x1_5⟩ : _ := ST1.out.six 1 rfl
  go_wp2_with fail
  refine (HJ.out _ (ST1.out.v 1 rfl)).mono ?_
  rintro e' u2 ⟨rfl, c2⟩
  have ST2 : Hid (St w [⟨w.heap.size, n, k, An, cAn, Ak, cAk⟩, ⟨w.heap.size + 1, m, q, Bn, cBn, Bk, cBk⟩] u2) := ST1.out.step c2
  clear c2
  clear x1_0 x1_1 x1_2 x1_3 x1_4 x1_5
  go_wp2_with fail
  go_ret
  exact ⟨rfl, ST2.out.1⟩
set_option maxRecDepth 100000 in
set_option maxHeartbeats 3200000 in
theorem decimalLaws_c (n : Nd) (k : F) (m : Nd) (q : F) (v u : Value) (w : World) (hv : Vo w (· < w.heap.size) n k v) (hu : Vo w (· < w.heap.size) m q u) (htab : Lib.TabIs Tryd.prog w "internal/strconv.uint64pow10" .u64 Lib.pow10Tab) (h1 : numB n k = true) (h2 : numB m q = true) :
    Calls Tryd.prog 5 #[v, u] w (Ret (.bool true) w) := by
  obtain ⟨An, cAn, Ak, cAk, rfl, hok1, _, _, _, _⟩ := id hv
  obtain ⟨Bn, cBn, Bk, cBk, rfl, hok2, _, _, _, _⟩ := id hu
  obtain ⟨W0, hW0⟩ : ∃ W0, (w.alloc (.cells #[.int .i64 n.kind, .int .i64 n.int, .int .i64 n.scale, .string (str n.text), .slice An n.names.length cAn, .slice Ak k.len cAk] 25)).alloc (.cells #[.int .i64 m.kind, .int .i64 m.int, .int .i64 m.scale, .string (str m.text), .slice Bn m.names.length cBn, .slice Bk q.len cBk] 25) = W0 := ⟨_, rfl⟩
  have ST0 : Hid (St w [⟨w.heap.size, n, k, An, cAn, Ak, cAk⟩, ⟨w.heap.size + 1, m, q, Bn, cBn, Bk, cBk⟩] W0) := by
    have := St.box_new (St.box_new (St.nil w) hv) hu
    show St _ _ _
    rw [← hW0]
    simpa [ncells] using this
  unfold ncells
  obtain ⟨hn, rfl⟩ := numB_num hok1 h1
  obtain ⟨hm, rfl⟩ := numB_num hok2 h2
  have HI : Hid (∀ W, Vo W (· < W.heap.size) n .nil (.agg #[.int .i64 n.kind, .int .i64 n.int, .int .i64 n.scale, .string (str n.text), .slice An n.names.length cAn, .slice Ak F.nil.len cAk]) → Calls Tryd.prog 14 #[.agg #[.int .i64 n.kind, .int .i64 n.int, .int .i64 n.scale, .string (str n.text), .slice An n.names.length cAn, .slice Ak F.nil.len cAk]] W (Ret (.bool true) W)) := fun W h => by rw [← h1]; exact is_any n .nil _ W h
  have HJ : Hid (∀ W, Vo W (· < W.heap.size) m .nil (.agg #[.int .i64 m.kind, .int .i64 m.int, .int .i64 m.scale, .string (str m.text), .slice Bn m.names.length cBn, .slice Bk F.nil.len cBk]) → Calls Tryd.prog 14 #[.agg #[.int .i64 m.kind, .int .i64 m.int, .int .i64 m.scale, .string (str m.text), .slice Bn m.names.length cBn, .slice Bk F.nil.len cBk]] W (Ret (.bool true) W)) := fun W h => by rw [← h2]; exact is_any m .nil _ W h
  have HAB : Hid (∀ W, Vo W (· < W.heap.size) n .nil (.agg #[.int .i64 n.kind, .int .i64 n.int, .int .i64 n.scale, .string (str n.text), .slice An n.names.length cAn, .slice Ak F.nil.len cAk]) → Vo W (· < W.heap.size) m .nil (.agg #[.int .i64 m.kind, .int .i64 m.int, .int .i64 m.scale, .string (str m.text), .slice Bn m.names.length cBn, .slice Bk F.nil.len cBk]) → Calls Tryd.prog 15 #[.agg #[.int .i64 n.kind, .int .i64 n.int, .int .i64 n.scale, .string (str n.text), .slice An n.names.length cAn, .slice Ak F.nil.len cAk], .agg #[.int .i64 m.kind, .int .i64 m.int, .int .i64 m.scale, .string (str m.text), .slice Bn m.names.length cBn, .slice Bk F.nil.len cBk]] W (Ret (.tuple #[.agg #[.int .i64 (addR n .nil m .nil).1.kind, .int .i64 (addR n .nil m .nil).1.int, .int .i64 (addR n .nil m .nil).1.scale, .string (str (addR n .nil m .nil).1.text), .slice none 0 0, .slice none 0 0], .int .i64 (addR n .nil m .nil).2]) W)) := fun W h g => addR_any n .nil m .nil _ _ W h g
  have HBA : Hid (∀ W, Vo W (· < W.heap.size) m .nil (.agg #[.int .i64 m.kind, .int .i64 m.int, .int .i64 m.scale, .string (str m.text), .slice Bn m.names.length cBn, .slice Bk F.nil.len cBk]) → Vo W (· < W.heap.size) n .nil (.agg #[.int .i64 n.kind, .int .i64 n.int, .int .i64 n.scale, .string (str n.text), .slice An n.names.length cAn, .slice Ak F.nil.len cAk]) → Calls Tryd.prog 15 #[.agg #[.int .i64 m.kind, .int .i64 m.int, .int .i64 m.scale, .string (str m.text), .slice Bn m.names.length cBn, .slice Bk F.nil.len cBk], .agg #[.int .i64 n.kind, .int .i64 n.int, .int .i64 n.scale, .string (str n.text), .slice An n.names.length cAn, .slice Ak F.nil.len cAk]] W (Ret (.tuple #[.agg #[.int .i64 (addR n .nil m .nil).1.kind, .int .i64 (addR n .nil m .nil).1.int, .int .i64 (addR n .nil m .nil).1.scale, .string (str (addR n .nil m .nil).1.text), .slice none 0 0, .slice none 0 0], .int .i64 (addR n .nil m .nil).2]) W)) := fun W h g => by rw [addR_comm]; exact addR_any m .nil n .nil _ _ W h g
  have HMN : Hid (∀ W, Vo W (· < W.heap.size) n .nil (.agg #[.int .i64 n.kind, .int .i64 n.int, .int .i64 n.scale, .string (str n.text), .slice An n.names.length cAn, .slice Ak F.nil.len cAk]) → Vo W (· < W.heap.size) m .nil (.agg #[.int .i64 m.kind, .int .i64 m.int, .int .i64 m.scale, .string (str m.text), .slice Bn m.names.length cBn, .slice Bk F.nil.len cBk]) → Calls Tryd.prog 16 #[.agg #[.int .i64 n.kind, .int .i64 n.int, .int .i64 n.scale, .string (str n.text), .slice An n.names.length cAn, .slice Ak F.nil.len cAk], .agg #[.int .i64 m.kind, .int .i64 m.int, .int .i64 m.scale, .string (str m.text), .slice Bn m.names.length cBn, .slice Bk F.nil.len cBk]] W (Ret (.tuple #[.agg #[.int .i64 (mulR n .nil m .nil).1.kind, .int .i64 (mulR n .nil m .nil).1.int, .int .i64 (mulR n .nil m .nil).1.scale, .string (str (mulR n .nil m .nil).1.text), .slice none 0 0, .slice none 0 0], .int .i64 (mulR n .nil m .nil).2]) W)) := fun W h g => mulR_any n .nil m .nil _ _ W h g
  have HNM : Hid (∀ W, Vo W (· < W.heap.size) m .nil (.agg #[.int .i64 m.kind, .int .i64 m.int, .int .i64 m.scale, .string (str m.text), .slice Bn m.names.length cBn, .slice Bk F.nil.len cBk]) → Vo W (· < W.heap.size) n .nil (.agg #[.int .i64 n.kind, .int .i64 n.int, .int .i64 n.scale, .string (str n.text), .slice An n.names.length cAn, .slice Ak F.nil.len cAk]) → Calls Tryd.prog 16 #[.agg #[.int .i64 m.kind, .int .i64 m.int, .int .i64 m.scale, .string (str m.text), .slice Bn m.names.length cBn, .slice Bk F.nil.len cBk], .agg #[.int .i64 n.kind, .int .i64 n.int, .int .i64 n.scale, .string (str n.text), .slice An n.names.length cAn, .slice Ak F.nil.len cAk]] W (Ret (.tuple #[.agg #[.int .i64 (mulR n .nil m .nil).1.kind, .int .i64 (mulR n .nil m .nil).1.int, .int .i64 (mulR n .nil m .nil).1.scale, .string (str (mulR n .nil m .nil).1.text), .slice none 0 0, .slice none 0 0], .int .i64 (mulR n .nil m .nil).2]) W)) := fun W h g => by rw [mulR_comm]; exact mulR_any m .nil n .nil _ _ W h g
  have PX : Hid (plainN (addR n .nil m .nil).1) := addR_plain _ _ _ _
  have PY : Hid (plainN (mulR n .nil m .nil).1) := mulR_plain _ _ _ _
  have PN : Hid (plainN n) := num_plain hn
  have HS : Hid ((addR n .nil m .nil).2 = 0 → subR (addR n .nil m .nil).1 .nil m .nil = (n, 0)) := fun h => addR_back hn hm h
  generalize (addR n .nil m .nil).1 = x at *
  generalize (addR n .nil m .nil).2 = e at *
  generalize (mulR n .nil m .nil).1 = z at *
  generalize (mulR n .nil m .nil).2 = g at *
  have HEX : Hid (∀ W, Calls Tryd.prog 17 #[.agg #[.int .i64 x.kind, .int .i64 x.int, .int .i64 x.scale, .string (str x.text), .slice none 0 0, .slice none 0 0], .agg #[.int .i64 x.kind, .int .i64 x.int, .int .i64 x.scale, .string (str x.text), .slice none 0 0, .slice none 0 0]] W (Ret (.bool true) W)) := fun W => eq_self PX.out W
  have HEZ : Hid (∀ W, Calls Tryd.prog 17 #[.agg #[.int .i64 z.kind, .int .i64 z.int, .int .i64 z.scale, .string (str z.text), .slice none 0 0, .slice none 0 0], .agg #[.int .i64 z.kind, .int .i64 z.int, .int .i64 z.scale, .string (str z.text), .slice none 0 0, .slice none 0 0]] W (Ret (.bool true) W)) := fun W => eq_self PY.out W
  have HEN : Hid (∀ W, Vo W (· < W.heap.size) n .nil (.agg #[.int .i64 n.kind, .int .i64 n.int, .int .i64 n.scale, .string (str n.text), .slice An n.names.length cAn, .slice Ak F.nil.len cAk]) → Calls Tryd.prog 17 #[.agg #[.int .i64 n.kind, .int .i64 n.int, .int .i64 n.scale, .string (str n.text), .slice none 0 0, .slice none 0 0], .agg #[.int .i64 n.kind, .int .i64 n.int, .int .i64 n.scale, .string (str n.text), .slice An n.names.length cAn, .slice Ak F.nil.len cAk]] W (Ret (.bool true) W)) := fun W h => by
    have h' := eq_any n .nil n .nil _ _ W (plain_vo PN.out W _) h
    rw [eqV_iff.2 ⟨rfl, rfl⟩] at h'
    exact h'
  have HK : Hid (∀ w', Below w.heap.size w w' → Calls Tryd.prog 13 #[] w' (Ret (.bool true) w')) := fun w' hb => known6_any w' (tab_below htab hb)
  clear hv hu htab h1 h2 hn hm hok1 hok2
  go_enter Tryd.func5, Tryd.ntmps5
  go_upto_region 1 with fail
  clear hW0
  obtain ⟨x0_0, x0_1, x0_2, x0_3, x0_4, x0_5⟩ : _ := ST0.out.six 0 rfl
  go_wp2_with fail
  refine (HI.out _ (ST0.out.v 0 rfl)).mono ?_
  rintro e' u1 ⟨rfl, c1⟩
  have ST1 : Hid (St w [⟨w.heap.size, n, .nil, An, cAn, Ak, cAk⟩, ⟨w.heap.size + 1, m, .nil, Bn, cBn, Bk, cBk⟩] u1) := ST0.out.step c1
  clear c1
  clear x0_0 x0_1 x0_2 x0_3 x0_4 x0_5
  obtain ⟨x1_0, x1_1, x1_2, x1_3, x1_4, x1_5⟩ : _ := ST1.out.six 1 rfl
  go_wp2_with fail
  refine (HJ.out _ (ST1.out.v 1 rfl)).mono ?_
  rintro e' u2 ⟨rfl, c2⟩
  have ST2 : Hid (St w [⟨w.heap.size, n, .nil, An, cAn, Ak, cAk⟩, ⟨w.heap.size + 1, m, .nil, Bn, cBn, Bk, cBk⟩] u2) := ST1.out.step c2
  clear c2
  clear x1_0 x1_1 x1_2 x1_3 x1_4 x1_5
  obtain ⟨x0_0, x0_1, x0_2, x0_3, x0_4, x0_5⟩ : _ := ST2.out.six 0 rfl
  obtain ⟨x1_0, x1_1, x1_2, x1_3, x1_4, x1_5⟩ : _ := ST2.out.six 1 rfl
  go_upto_region 4 with (go_at_call 15; refine (HAB.out _ (ST2.out.v 0 rfl) (ST2.out.v 1 rfl)).mono ?_; rintro e' u3 ⟨rfl, c3⟩)
  obtain ⟨W3, hW3⟩ : ∃ W3, u3.alloc (.cells #[.int .i64 x.kind, .int .i64 x.int, .int .i64 x.scale, .string (str x.text), .slice none 0 0, .slice none 0 0] 25) = W3 := ⟨_, rfl⟩
  rw [hW3]
  have ST3 : Hid (St w [⟨w.heap.size, n, .nil, An, cAn, Ak, cAk⟩, ⟨w.heap.size + 1, m, .nil, Bn, cBn, Bk, cBk⟩, ⟨u3.heap.size, x, .nil, none, 0, none, 0⟩] W3) := by show St _ _ _; rw [← hW3]; exact (ST2.out.step c3).put2 PX.out
  clear hW3 c3
  clear x0_0 x0_1 x0_2 x0_3 x0_4 x0_5 x1_0 x1_1 x1_2 x1_3 x1_4 x1_5
  obtain ⟨x0_0, x0_1, x0_2, x0_3, x0_4, x0_5⟩ : _ := ST3.out.six 0 rfl
  obtain ⟨x1_0, x1_1, x1_2, x1_3, x1_4, x1_5⟩ : _ := ST3.out.six 1 rfl
  go_upto_region 5 with (go_at_call 15; refine (HBA.out _ (ST3.out.v 1 rfl) (ST3.out.v 0 rfl)).mono ?_; rintro e' u4 ⟨rfl, c4⟩)
  obtain ⟨W4, hW4⟩ : ∃ W4, u4.alloc (.cells #[.int .i64 x.kind, .int .i64 x.int, .int .i64 x.scale, .string (str x.text), .slice none 0 0, .slice none 0 0] 25) = W4 := ⟨_, rfl⟩
  rw [hW4]
  have ST4 : Hid (St w [⟨w.heap.size, n, .nil, An, cAn, Ak, cAk⟩, ⟨w.heap.size + 1, m, .nil, Bn, cBn, Bk, cBk⟩, ⟨u3.heap.size, x, .nil, none, 0, none, 0⟩, ⟨u4.heap.size, x, .nil, none, 0, none, 0⟩] W4) := by show St _ _ _; rw [← hW4]; exact (ST3.out.step c4).put2 PX.out
  clear hW4 c4
  clear x0_0 x0_1 x0_2 x0_3 x0_4 x0_5 x1_0 x1_1 x1_2 x1_3 x1_4 x1_5
  obtain ⟨x0_0, x0_1, x0_2, x0_3, x0_4, x0_5⟩ : _ := ST4.out.six 0 rfl
  obtain ⟨x1_0, x1_1, x1_2, x1_3, x1_4, x1_5⟩ : _ := ST4.out.six 1 rfl
  go_upto_region 6 with (go_at_call 16; refine (HMN.out _ (ST4.out.v 0 rfl) (ST4.out.v 1 rfl)).mono ?_; rintro e' u5 ⟨rfl, c5⟩)
  obtain ⟨W5, hW5⟩ : ∃ W5, u5.alloc (.cells #[.int .i64 z.kind, .int .i64 z.int, .int .i64 z.scale, .string (str z.text), .slice none 0 0, .slice none 0 0] 25) = W5 := ⟨_, rfl⟩
  rw [hW5]
  have ST5 : Hid (St w [⟨w.heap.size, n, .nil, An, cAn, Ak, cAk⟩, ⟨w.heap.size + 1, m, .nil, Bn, cBn, Bk, cBk⟩, ⟨u3.heap.size, x, .nil, none, 0, none, 0⟩, ⟨u4.heap.size, x, .nil, none, 0, none, 0⟩, ⟨u5.heap.size, z, .nil, none, 0, none, 0⟩] W5) := by show St _ _ _; rw [← hW5]; exact (ST4.out.step c5).put2 PY.out
  clear hW5 c5
  clear x0_0 x0_1 x0_2 x0_3 x0_4 x0_5 x1_0 x1_1 x1_2 x1_3 x1_4 x1_5
  obtain ⟨x0_0, x0_1, x0_2, x0_3, x0_4, x0_5⟩ : _ := ST5.out.six 0 rfl
  obtain ⟨x1_0, x1_1, x1_2, x1_3, x1_4, x1_5⟩ : _ := ST5.out.six 1 rfl
  go_upto_region 7 with (go_at_call 16; refine (HNM.out _ (ST5.out.v 1 rfl) (ST5.out.v 0 rfl)).mono ?_; rintro e' u6 ⟨rfl, c6⟩)
  obtain ⟨W6, hW6⟩ : ∃ W6, u6.alloc (.cells #[.int .i64 z.kind, .int .i64 z.int, .int .i64 z.scale, .string (str z.text), .slice none 0 0, .slice none 0 0] 25) = W6 := ⟨_, rfl⟩
  rw [hW6]
  have ST6 : Hid (St w [⟨w.heap.size, n, .nil, An, cAn, Ak, cAk⟩, ⟨w.heap.size + 1, m, .nil, Bn, cBn, Bk, cBk⟩, ⟨u3.heap.size, x, .nil, none, 0, none, 0⟩, ⟨u4.heap.size, x, .nil, none, 0, none, 0⟩, ⟨u5.heap.size, z, .nil, none, 0, none, 0⟩, ⟨u6.heap.size, z, .nil, none, 0, none, 0⟩] W6) := by show St _ _ _; rw [← hW6]; exact (ST5.out.step c6).put2 PY.out
  clear hW6 c6
  clear x0_0 x0_1 x0_2 x0_3 x0_4 x0_5 x1_0 x1_1 x1_2 x1_3 x1_4 x1_5
  obtain ⟨x2_0, x2_1, x2_2, x2_3, x2_4, x2_5⟩ : _ := ST6.out.six2 2 rfl PX.out
  obtain ⟨x3_0, x3_1, x3_2, x3_3, x3_4, x3_5⟩ : _ := ST6.out.six2 3 rfl PX.out
  go_wp2_with fail
  refine (HEX.out _).mono ?_
  rintro e' u7 ⟨rfl, c7⟩
  have ST7 : Hid (St w [⟨w.heap.size, n, .nil, An, cAn, Ak, cAk⟩, ⟨w.heap.size + 1, m, .nil, Bn, cBn, Bk, cBk⟩, ⟨u3.heap.size, x, .nil, none, 0, none, 0⟩, ⟨u4.heap.size, x, .nil, none, 0, none, 0⟩, ⟨u5.heap.size, z, .nil, none, 0, none, 0⟩, ⟨u6.heap.size, z, .nil, none, 0, none, 0⟩] u7) := ST6.out.step c7
  clear c7
  clear x2_0 x2_1 x2_2 x2_3 x2_4 x2_5 x3_0 x3_1 x3_2 x3_3 x3_4 x3_5
  obtain ⟨x4_0, x4_1, x4_2, x4_3, x4_4, x4_5⟩ : _ := ST7.out.six2 4 rfl PY.out
  obtain ⟨x5_0, x5_1, x5_2, x5_3, x5_4, x5_5⟩ : _ := ST7.out.six2 5 rfl PY.out
  go_wp2_with fail
  refine (HEZ.out _).mono ?_
  rintro e' u8 ⟨rfl, c8⟩
  have ST8 : Hid (St w [⟨w.heap.size, n, .nil, An, cAn, Ak, cAk⟩, ⟨w.heap.size + 1, m, .nil, Bn, cBn, Bk, cBk⟩, ⟨u3.heap.size, x, .nil, none, 0, none, 0⟩, ⟨u4.heap.size, x, .nil, none, 0, none, 0⟩, ⟨u5.heap.size, z, .nil, none, 0, none, 0⟩, ⟨u6.heap.size, z, .nil, none, 0, none, 0⟩] u8) := ST7.out.step c8
  clear c8
  clear x4_0 x4_1 x4_2 x4_3 x4_4 x4_5 x5_0 x5_1 x5_2 x5_3 x5_4 x5_5
  by_cases h0 : e = 0
  · have HS2 := Lib.hid (HS.out h0)
    subst h0
    have HSB : Hid (∀ W, Vo W (· < W.heap.size) x .nil (.agg #[.int .i64 x.kind, .int .i64 x.int, .int .i64 x.scale, .string (str x.text), .slice none 0 0, .slice none 0 0]) → Vo W (· < W.heap.size) m .nil (.agg #[.int .i64 m.kind, .int .i64 m.int, .int .i64 m.scale, .string (str m.text), .slice Bn m.names.length cBn, .slice Bk F.nil.len cBk]) → Calls Tryd.prog 18 #[.agg #[.int .i64 x.kind, .int .i64 x.int, .int .i64 x.scale, .string (str x.text), .slice none 0 0, .slice none 0 0], .agg #[.int .i64 m.kind, .int .i64 m.int, .int .i64 m.scale, .string (str m.text), .slice Bn m.names.length cBn, .slice Bk F.nil.len cBk]] W (Ret (.tuple #[.agg #[.int .i64 n.kind, .int .i64 n.int, .int .i64 n.scale, .string (str n.text), .slice none 0 0, .slice none 0 0], .int .i64 0]) W)) := fun W h g => by
      have h' := subR_any x .nil m .nil _ _ W h g
      rw [HS2.out] at h'
      exact h'
    have VX : Hid (∀ W, Vo W (· < W.heap.size) x .nil (.agg #[.int .i64 x.kind, .int .i64 x.int, .int .i64 x.scale, .string (str x.text), .slice none 0 0, .slice none 0 0])) := fun W => plain_vo PX.out W _
    clear HS HS2
    obtain ⟨x1_0, x1_1, x1_2, x1_3, x1_4, x1_5⟩ : _ := ST8.out.six 1 rfl
    obtain ⟨x2_0, x2_1, x2_2, x2_3, x2_4, x2_5⟩ : _ := ST8.out.six2 2 rfl PX.out
    go_upto_region 11 with (go_at_call 18; refine (HSB.out _ (VX.out _) (ST8.out.v 1 rfl)).mono ?_; rintro e' u9 ⟨rfl, c9⟩)
    obtain ⟨W9, hW9⟩ : ∃ W9, u9.alloc (.cells #[.int .i64 n.kind, .int .i64 n.int, .int .i64 n.scale, .string (str n.text), .slice none 0 0, .slice none 0 0] 25) = W9 := ⟨_, rfl⟩
    rw [hW9]
    have ST9 : Hid (St w [⟨w.heap.size, n, .nil, An, cAn, Ak, cAk⟩, ⟨w.heap.size + 1, m, .nil, Bn, cBn, Bk, cBk⟩, ⟨u3.heap.size, x, .nil, none, 0, none, 0⟩, ⟨u4.heap.size, x, .nil, none, 0, none, 0⟩, ⟨u5.heap.size, z, .nil, none, 0, none, 0⟩, ⟨u6.heap.size, z, .nil, none, 0, none, 0⟩, ⟨u9.heap.size, n, .nil, none, 0, none, 0⟩] W9) := by show St _ _ _; rw [← hW9]; exact (ST8.out.step c9).put2 PN.out
    clear hW9 c9
    clear x1_0 x1_1 x1_2 x1_3 x1_4 x1_5 x2_0 x2_1 x2_2 x2_3 x2_4 x2_5
    obtain ⟨x6_0, x6_1, x6_2, x6_3, x6_4, x6_5⟩ : _ := ST9.out.six2 6 rfl PN.out
    obtain ⟨x0_0, x0_1, x0_2, x0_3, x0_4, x0_5⟩ : _ := ST9.out.six 0 rfl
    go_wp2_with fail
    refine (HEN.out _ (ST9.out.v 0 rfl)).mono ?_
    rintro e' u10 ⟨rfl, c10⟩
    have ST10 : Hid (St w [⟨w.heap.size, n, .nil, An, cAn, Ak, cAk⟩, ⟨w.heap.size + 1, m, .nil, Bn, cBn, Bk, cBk⟩, ⟨u3.heap.size, x, .nil, none, 0, none, 0⟩, ⟨u4.heap.size, x, .nil, none, 0, none, 0⟩, ⟨u5.heap.size, z, .nil, none, 0, none, 0⟩, ⟨u6.heap.size, z, .nil, none, 0, none, 0⟩, ⟨u9.heap.size, n, .nil, none, 0, none, 0⟩] u10) := ST9.out.step c10
    clear c10
    clear x6_0 x6_1 x6_2 x6_3 x6_4 x6_5 x0_0 x0_1 x0_2 x0_3 x0_4 x0_5
    go_wp2_with fail
    refine (HK.out _ ST10.out.1).mono ?_
    rintro e' u11 ⟨rfl, c11⟩
    have ST11 : Hid (St w [⟨w.heap.size, n, .nil, An, cAn, Ak, cAk⟩, ⟨w.heap.size + 1, m, .nil, Bn, cBn, Bk, cBk⟩, ⟨u3.heap.size, x, .nil, none, 0, none, 0⟩, ⟨u4.heap.size, x, .nil, none, 0, none, 0⟩, ⟨u5.heap.size, z, .nil, none, 0, none, 0⟩, ⟨u6.heap.size, z, .nil, none, 0, none, 0⟩, ⟨u9.heap.size, n, .nil, none, 0, none, 0⟩] u11) := ST10.out.step c11
    clear c11
    go_wp2_with fail
    go_ret
    exact ⟨rfl, ST11.out.1⟩
  · have q1 : (e == 0) = false := by simpa using h0
    clear h0 HS
    go_wp2_with fail
    refine (HK.out _ ST8.out.1).mono ?_
    rintro e' u9 ⟨rfl, c9⟩
    have ST9 : Hid (St w [⟨w.heap.size, n, .nil, An, cAn, Ak, cAk⟩, ⟨w.heap.size + 1, m, .nil, Bn, cBn, Bk, cBk⟩, ⟨u3.heap.size, x, .nil, none, 0, none, 0⟩, ⟨u4.heap.size, x, .nil, none, 0, none, 0⟩, ⟨u5.heap.size, z, .nil, none, 0, none, 0⟩, ⟨u6.heap.size, z, .nil, none, 0, none, 0⟩] u9) := ST8.out.step c9
    clear c9
    go_wp2_with fail
    go_ret
    exact ⟨rfl, ST9.out.1⟩
theorem decimalLaws_any (n : Nd) (k : F) (m : Nd) (q : F) (v u : Value) (w : World) (hv : Vo w (· < w.heap.size) n k v) (hu : Vo w (· < w.heap.size) m q u) (htab : Lib.TabIs Tryd.prog w "internal/strconv.uint64pow10" .u64 Lib.pow10Tab) :
    Calls Tryd.prog 5 #[v, u] w (Ret (.bool true) w) := by
  cases h1 : numB n k with
  | false => exact decimalLaws_a n k m q v u w hv hu htab h1
  | true => cases h2 : numB m q with
    | false => exact decimalLaws_b n k m q v u w hv hu htab h1 h2
    | true => exact decimalLaws_c n k m q v u w hv hu htab h1 h2
end Go.Proofs.YtfcbcbpnlnkpcaaDoor

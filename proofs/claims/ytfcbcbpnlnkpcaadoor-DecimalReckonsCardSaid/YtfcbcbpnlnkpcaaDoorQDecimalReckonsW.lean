/- DecimalReckons: the walk of the law. (Printed by gen/dreckons.py.) -/
import Derived.Test.YtfcbcbpnlnkpcaaDoorQKnown6
import Derived.Test.YtfcbcbpnlnkpcaaDoorQAn
import Derived.Test.YtfcbcbpnlnkpcaaDoorQDecCmp
import Derived.Test.YtfcbcbpnlnkpcaaDoorQRAdd
import Derived.Test.YtfcbcbpnlnkpcaaDoorQRSub
import Derived.Test.YtfcbcbpnlnkpcaaDoorQRMul
import Derived.Test.YtfcbcbpnlnkpcaaDoorQNegs
namespace Go.Proofs.YtfcbcbpnlnkpcaaDoor
set_option linter.all false
open Go.RowKit
def plB (n : Nd) (k : F) : Bool := (k.len == 0) && ((n.names.length == 0) && decide (n.text.length < 500))

set_option maxRecDepth 100000 in
set_option maxHeartbeats 12800000 in
theorem plain6_any (n : Nd) (k : F) (v : Value) (w : World) (hv : Vo w (· < w.heap.size) n k v) :
    Calls Tryd.prog 20 #[v] w (Ret (.bool (plB n k)) w) := by
  obtain ⟨An, cAn, Ak, cAk, rfl, hok0, _, _, _, _⟩ := id hv
  obtain ⟨W0, hW0⟩ : ∃ W0, (w.alloc (.cells #[.int .i64 n.kind, .int .i64 n.int, .int .i64 n.scale, .string (str n.text), .slice An n.names.length cAn, .slice Ak k.len cAk] 25)) = W0 := ⟨_, rfl⟩
  have ST0 : Hid (St w [⟨w.heap.size, n, k, An, cAn, Ak, cAk⟩] W0) := by
    have := (St.box_new (St.nil w) hv)
    show St _ _ _
    rw [← hW0]
    simpa [ncells, Nat.add_assoc] using this
  unfold ncells
  have HB : Hid (plB n k = ((k.len == 0) && ((n.names.length == 0) && decide (n.text.length < 500)))) := rfl
  generalize plB n k = P at *
  clear hv hok0
  go_enter Tryd.func20, Tryd.ntmps20
  go_upto_region 1 with fail
  clear hW0
  obtain ⟨x0_0, x0_1, x0_2, x0_3, x0_4, x0_5⟩ : _ := ST0.out.six 0 rfl
  have hsz : (str n.text).size = n.text.length := str_sz _
  by_cases h1 : k.len = 0
  · have q1 : ((k.len : Int) == 0) = true := by simp [h1]
    by_cases h2 : n.names.length = 0
    · have q2 : ((n.names.length : Int) == 0) = true := by simp [h2]
      by_cases h3 : n.text.length < 500
      · have q3 : ((n.text.length : Nat) : Int) < 500 := by omega
        have HX : Hid (P = true) := by show _ = _; rw [HB.out]; simp [h1, h2, h3]
        clear h1 h2 h3
        go_wp2_with fail
        go_ret
        exact ⟨ret_bo HX.out.symm, ST0.out.1⟩
      · have q3 : ¬ ((n.text.length : Nat) : Int) < 500 := by omega
        have HX : Hid (P = false) := by show _ = _; rw [HB.out]; simp [h1, h2]; omega
        clear h1 h2 h3
        go_wp2_with fail
        go_ret
        exact ⟨ret_bo (by first | exact HX.out.symm | (rw [HX.out]; simp; omega)), ST0.out.1⟩
    · have q2 : ((n.names.length : Int) == 0) = false := by simp [h2]
      have HX : Hid (P = false) := by show _ = _; rw [HB.out]; simp [h1, h2]
      clear h1 h2
      go_wp2_with fail
      go_ret
      exact ⟨ret_bo HX.out.symm, ST0.out.1⟩
  · have q1 : ((k.len : Int) == 0) = false := by simp [h1]
    have HX : Hid (P = false) := by show _ = _; rw [HB.out]; simp [h1]
    clear h1
    go_wp2_with fail
    go_ret
    exact ⟨ret_bo HX.out.symm, ST0.out.1⟩
set_option maxRecDepth 100000 in
set_option maxHeartbeats 6400000 in
theorem decimalReckons_0 (n : Nd) (k : F) (m : Nd) (q : F) (v : Value) (u : Value) (w : World) (hv : Vo w (· < w.heap.size) n k v) (hu : Vo w (· < w.heap.size) m q u)  (h1 : plB n k = false) :
    Calls Tryd.prog 8 #[v, u] w (Ret (.bool true) w) := by
  obtain ⟨An, cAn, Ak, cAk, rfl, hok0, _, _, _, _⟩ := id hv
  obtain ⟨Bn, cBn, Bk, cBk, rfl, hok1, _, _, _, _⟩ := id hu
  obtain ⟨W0, hW0⟩ : ∃ W0, ((w.alloc (.cells #[.int .i64 n.kind, .int .i64 n.int, .int .i64 n.scale, .string (str n.text), .slice An n.names.length cAn, .slice Ak k.len cAk] 25)).alloc (.cells #[.int .i64 m.kind, .int .i64 m.int, .int .i64 m.scale, .string (str m.text), .slice Bn m.names.length cBn, .slice Bk q.len cBk] 25)) = W0 := ⟨_, rfl⟩
  have ST0 : Hid (St w [⟨w.heap.size, n, k, An, cAn, Ak, cAk⟩, ⟨w.heap.size + 1, m, q, Bn, cBn, Bk, cBk⟩] W0) := by
    have := (St.box_new (St.box_new (St.nil w) hv) hu)
    show St _ _ _
    rw [← hW0]
    simpa [ncells, Nat.add_assoc] using this
  unfold ncells
  have HP0 : Hid (∀ W, Vo W (· < W.heap.size) n k (.agg #[.int .i64 n.kind, .int .i64 n.int, .int .i64 n.scale, .string (str n.text), .slice An n.names.length cAn, .slice Ak k.len cAk]) → Calls Tryd.prog 20 #[.agg #[.int .i64 n.kind, .int .i64 n.int, .int .i64 n.scale, .string (str n.text), .slice An n.names.length cAn, .slice Ak k.len cAk]] W (Ret (.bool (plB n k)) W)) := fun W h => plain6_any n k _ W h
  have HP1 : Hid (∀ W, Vo W (· < W.heap.size) m q (.agg #[.int .i64 m.kind, .int .i64 m.int, .int .i64 m.scale, .string (str m.text), .slice Bn m.names.length cBn, .slice Bk q.len cBk]) → Calls Tryd.prog 20 #[.agg #[.int .i64 m.kind, .int .i64 m.int, .int .i64 m.scale, .string (str m.text), .slice Bn m.names.length cBn, .slice Bk q.len cBk]] W (Ret (.bool (plB m q)) W)) := fun W h => plain6_any m q _ W h
  rw [h1] at HP0
  clear hv hu h1
  go_enter Tryd.func8, Tryd.ntmps8
  go_upto_region 1 with fail
  clear hW0
  obtain ⟨x0_0, x0_1, x0_2, x0_3, x0_4, x0_5⟩ : _ := ST0.out.six 0 rfl
  go_wp2_with fail
  refine (HP0.out _ (ST0.out.v 0 rfl)).mono ?_
  rintro e' u1 ⟨rfl, c1⟩
  have ST1 : Hid (St w [⟨w.heap.size, n, k, An, cAn, Ak, cAk⟩, ⟨w.heap.size + 1, m, q, Bn, cBn, Bk, cBk⟩] u1) := ST0.out.step c1
  clear c1
  clear x0_0 x0_1 x0_2 x0_3 x0_4 x0_5
  go_wp2_with fail
  go_ret
  first | exact ⟨rfl, ST1.out.1⟩ | exact ⟨ret_bo (by simp; omega), ST1.out.1⟩
set_option maxRecDepth 100000 in
set_option maxHeartbeats 6400000 in
theorem decimalReckons_1 (n : Nd) (k : F) (m : Nd) (q : F) (v : Value) (u : Value) (w : World) (hv : Vo w (· < w.heap.size) n k v) (hu : Vo w (· < w.heap.size) m q u)  (h1 : plB n k = true) (h2 : plB m q = false) :
    Calls Tryd.prog 8 #[v, u] w (Ret (.bool true) w) := by
  obtain ⟨An, cAn, Ak, cAk, rfl, hok0, _, _, _, _⟩ := id hv
  obtain ⟨Bn, cBn, Bk, cBk, rfl, hok1, _, _, _, _⟩ := id hu
  obtain ⟨W0, hW0⟩ : ∃ W0, ((w.alloc (.cells #[.int .i64 n.kind, .int .i64 n.int, .int .i64 n.scale, .string (str n.text), .slice An n.names.length cAn, .slice Ak k.len cAk] 25)).alloc (.cells #[.int .i64 m.kind, .int .i64 m.int, .int .i64 m.scale, .string (str m.text), .slice Bn m.names.length cBn, .slice Bk q.len cBk] 25)) = W0 := ⟨_, rfl⟩
  have ST0 : Hid (St w [⟨w.heap.size, n, k, An, cAn, Ak, cAk⟩, ⟨w.heap.size + 1, m, q, Bn, cBn, Bk, cBk⟩] W0) := by
    have := (St.box_new (St.box_new (St.nil w) hv) hu)
    show St _ _ _
    rw [← hW0]
    simpa [ncells, Nat.add_assoc] using this
  unfold ncells
  have HP0 : Hid (∀ W, Vo W (· < W.heap.size) n k (.agg #[.int .i64 n.kind, .int .i64 n.int, .int .i64 n.scale, .string (str n.text), .slice An n.names.length cAn, .slice Ak k.len cAk]) → Calls Tryd.prog 20 #[.agg #[.int .i64 n.kind, .int .i64 n.int, .int .i64 n.scale, .string (str n.text), .slice An n.names.length cAn, .slice Ak k.len cAk]] W (Ret (.bool (plB n k)) W)) := fun W h => plain6_any n k _ W h
  have HP1 : Hid (∀ W, Vo W (· < W.heap.size) m q (.agg #[.int .i64 m.kind, .int .i64 m.int, .int .i64 m.scale, .string (str m.text), .slice Bn m.names.length cBn, .slice Bk q.len cBk]) → Calls Tryd.prog 20 #[.agg #[.int .i64 m.kind, .int .i64 m.int, .int .i64 m.scale, .string (str m.text), .slice Bn m.names.length cBn, .slice Bk q.len cBk]] W (Ret (.bool (plB m q)) W)) := fun W h => plain6_any m q _ W h
  rw [h1] at HP0
  rw [h2] at HP1
  clear hv hu h1 h2
  go_enter Tryd.func8, Tryd.ntmps8
  go_upto_region 1 with fail
  clear hW0
  obtain ⟨x0_0, x0_1, x0_2, x0_3, x0_4, x0_5⟩ : _ := ST0.out.six 0 rfl
  go_wp2_with fail
  refine (HP0.out _ (ST0.out.v 0 rfl)).mono ?_
  rintro e' u1 ⟨rfl, c1⟩
  have ST1 : Hid (St w [⟨w.heap.size, n, k, An, cAn, Ak, cAk⟩, ⟨w.heap.size + 1, m, q, Bn, cBn, Bk, cBk⟩] u1) := ST0.out.step c1
  clear c1
  clear x0_0 x0_1 x0_2 x0_3 x0_4 x0_5
  obtain ⟨x1_0, x1_1, x1_2, x1_3, x1_4, x1_5⟩ : _ := ST1.out.six 1 rfl
  go_wp2_with fail
  refine (HP1.out _ (ST1.out.v 1 rfl)).mono ?_
  rintro e' u2 ⟨rfl, c2⟩
  have ST2 : Hid (St w [⟨w.heap.size, n, k, An, cAn, Ak, cAk⟩, ⟨w.heap.size + 1, m, q, Bn, cBn, Bk, cBk⟩] u2) := ST1.out.step c2
  clear c2
  clear x1_0 x1_1 x1_2 x1_3 x1_4 x1_5
  go_wp2_with fail
  go_ret
  first | exact ⟨rfl, ST2.out.1⟩ | exact ⟨ret_bo (by simp; omega), ST2.out.1⟩
set_option maxRecDepth 100000 in
set_option maxHeartbeats 6400000 in
theorem decimalReckons_c (n : Nd) (k : F) (m : Nd) (q : F) (v : Value) (u : Value) (w : World) (hv : Vo w (· < w.heap.size) n k v) (hu : Vo w (· < w.heap.size) m q u) (htab : Lib.TabIs Tryd.prog w "internal/strconv.uint64pow10" .u64 Lib.pow10Tab) (h1 : plB n k = true) (h2 : plB m q = true) :
    Calls Tryd.prog 8 #[v, u] w (Ret (.bool true) w) := by
  obtain ⟨An, cAn, Ak, cAk, rfl, hok0, _, _, _, _⟩ := id hv
  obtain ⟨Bn, cBn, Bk, cBk, rfl, hok1, _, _, _, _⟩ := id hu
  obtain ⟨W0, hW0⟩ : ∃ W0, ((w.alloc (.cells #[.int .i64 n.kind, .int .i64 n.int, .int .i64 n.scale, .string (str n.text), .slice An n.names.length cAn, .slice Ak k.len cAk] 25)).alloc (.cells #[.int .i64 m.kind, .int .i64 m.int, .int .i64 m.scale, .string (str m.text), .slice Bn m.names.length cBn, .slice Bk q.len cBk] 25)) = W0 := ⟨_, rfl⟩
  have ST0 : Hid (St w [⟨w.heap.size, n, k, An, cAn, Ak, cAk⟩, ⟨w.heap.size + 1, m, q, Bn, cBn, Bk, cBk⟩] W0) := by
    have := (St.box_new (St.box_new (St.nil w) hv) hu)
    show St _ _ _
    rw [← hW0]
    simpa [ncells, Nat.add_assoc] using this
  unfold ncells
  have HP0 : Hid (∀ W, Vo W (· < W.heap.size) n k (.agg #[.int .i64 n.kind, .int .i64 n.int, .int .i64 n.scale, .string (str n.text), .slice An n.names.length cAn, .slice Ak k.len cAk]) → Calls Tryd.prog 20 #[.agg #[.int .i64 n.kind, .int .i64 n.int, .int .i64 n.scale, .string (str n.text), .slice An n.names.length cAn, .slice Ak k.len cAk]] W (Ret (.bool (plB n k)) W)) := fun W h => plain6_any n k _ W h
  have HP1 : Hid (∀ W, Vo W (· < W.heap.size) m q (.agg #[.int .i64 m.kind, .int .i64 m.int, .int .i64 m.scale, .string (str m.text), .slice Bn m.names.length cBn, .slice Bk q.len cBk]) → Calls Tryd.prog 20 #[.agg #[.int .i64 m.kind, .int .i64 m.int, .int .i64 m.scale, .string (str m.text), .slice Bn m.names.length cBn, .slice Bk q.len cBk]] W (Ret (.bool (plB m q)) W)) := fun W h => plain6_any m q _ W h
  rw [h1] at HP0
  rw [h2] at HP1
  have Hadd : Hid (∀ W, Vo W (· < W.heap.size) n k (.agg #[.int .i64 n.kind, .int .i64 n.int, .int .i64 n.scale, .string (str n.text), .slice An n.names.length cAn, .slice Ak k.len cAk]) → Vo W (· < W.heap.size) m q (.agg #[.int .i64 m.kind, .int .i64 m.int, .int .i64 m.scale, .string (str m.text), .slice Bn m.names.length cBn, .slice Bk q.len cBk]) → Calls Tryd.prog 15 #[.agg #[.int .i64 n.kind, .int .i64 n.int, .int .i64 n.scale, .string (str n.text), .slice An n.names.length cAn, .slice Ak k.len cAk], .agg #[.int .i64 m.kind, .int .i64 m.int, .int .i64 m.scale, .string (str m.text), .slice Bn m.names.length cBn, .slice Bk q.len cBk]] W (Ret (.tuple #[.agg #[.int .i64 (addR n k m q).1.kind, .int .i64 (addR n k m q).1.int, .int .i64 (addR n k m q).1.scale, .string (str (addR n k m q).1.text), .slice none 0 0, .slice none 0 0], .int .i64 (addR n k m q).2]) W)) := fun W h g => addR_any _ _ _ _ _ _ W h g
  have Gadd : Hid (∀ W, Vo W (· < W.heap.size) n k (.agg #[.int .i64 n.kind, .int .i64 n.int, .int .i64 n.scale, .string (str n.text), .slice An n.names.length cAn, .slice Ak k.len cAk]) → Vo W (· < W.heap.size) m q (.agg #[.int .i64 m.kind, .int .i64 m.int, .int .i64 m.scale, .string (str m.text), .slice Bn m.names.length cBn, .slice Bk q.len cBk]) → Calls Tryd.prog 21 #[.agg #[.int .i64 n.kind, .int .i64 n.int, .int .i64 n.scale, .string (str n.text), .slice An n.names.length cAn, .slice Ak k.len cAk], .agg #[.int .i64 m.kind, .int .i64 m.int, .int .i64 m.scale, .string (str m.text), .slice Bn m.names.length cBn, .slice Bk q.len cBk]] W (Ret (.tuple #[.agg #[.int .i64 (addR n k m q).1.kind, .int .i64 (addR n k m q).1.int, .int .i64 (addR n k m q).1.scale, .string (str (addR n k m q).1.text), .slice none 0 0, .slice none 0 0], .int .i64 (addR n k m q).2]) W)) := fun W h g => radd6_any _ _ _ _ _ _ W h g
  have Padd : Hid (plainN (addR n k m q).1) := addR_plain _ _ _ _
  have Hsub : Hid (∀ W, Vo W (· < W.heap.size) n k (.agg #[.int .i64 n.kind, .int .i64 n.int, .int .i64 n.scale, .string (str n.text), .slice An n.names.length cAn, .slice Ak k.len cAk]) → Vo W (· < W.heap.size) m q (.agg #[.int .i64 m.kind, .int .i64 m.int, .int .i64 m.scale, .string (str m.text), .slice Bn m.names.length cBn, .slice Bk q.len cBk]) → Calls Tryd.prog 18 #[.agg #[.int .i64 n.kind, .int .i64 n.int, .int .i64 n.scale, .string (str n.text), .slice An n.names.length cAn, .slice Ak k.len cAk], .agg #[.int .i64 m.kind, .int .i64 m.int, .int .i64 m.scale, .string (str m.text), .slice Bn m.names.length cBn, .slice Bk q.len cBk]] W (Ret (.tuple #[.agg #[.int .i64 (subR n k m q).1.kind, .int .i64 (subR n k m q).1.int, .int .i64 (subR n k m q).1.scale, .string (str (subR n k m q).1.text), .slice none 0 0, .slice none 0 0], .int .i64 (subR n k m q).2]) W)) := fun W h g => subR_any _ _ _ _ _ _ W h g
  have Gsub : Hid (∀ W, Vo W (· < W.heap.size) n k (.agg #[.int .i64 n.kind, .int .i64 n.int, .int .i64 n.scale, .string (str n.text), .slice An n.names.length cAn, .slice Ak k.len cAk]) → Vo W (· < W.heap.size) m q (.agg #[.int .i64 m.kind, .int .i64 m.int, .int .i64 m.scale, .string (str m.text), .slice Bn m.names.length cBn, .slice Bk q.len cBk]) → Calls Tryd.prog 22 #[.agg #[.int .i64 n.kind, .int .i64 n.int, .int .i64 n.scale, .string (str n.text), .slice An n.names.length cAn, .slice Ak k.len cAk], .agg #[.int .i64 m.kind, .int .i64 m.int, .int .i64 m.scale, .string (str m.text), .slice Bn m.names.length cBn, .slice Bk q.len cBk]] W (Ret (.tuple #[.agg #[.int .i64 (subR n k m q).1.kind, .int .i64 (subR n k m q).1.int, .int .i64 (subR n k m q).1.scale, .string (str (subR n k m q).1.text), .slice none 0 0, .slice none 0 0], .int .i64 (subR n k m q).2]) W)) := fun W h g => rsub6_any _ _ _ _ _ _ W h g
  have Psub : Hid (plainN (subR n k m q).1) := subR_plain _ _ _ _
  have Hmul : Hid (∀ W, Vo W (· < W.heap.size) n k (.agg #[.int .i64 n.kind, .int .i64 n.int, .int .i64 n.scale, .string (str n.text), .slice An n.names.length cAn, .slice Ak k.len cAk]) → Vo W (· < W.heap.size) m q (.agg #[.int .i64 m.kind, .int .i64 m.int, .int .i64 m.scale, .string (str m.text), .slice Bn m.names.length cBn, .slice Bk q.len cBk]) → Calls Tryd.prog 16 #[.agg #[.int .i64 n.kind, .int .i64 n.int, .int .i64 n.scale, .string (str n.text), .slice An n.names.length cAn, .slice Ak k.len cAk], .agg #[.int .i64 m.kind, .int .i64 m.int, .int .i64 m.scale, .string (str m.text), .slice Bn m.names.length cBn, .slice Bk q.len cBk]] W (Ret (.tuple #[.agg #[.int .i64 (mulR n k m q).1.kind, .int .i64 (mulR n k m q).1.int, .int .i64 (mulR n k m q).1.scale, .string (str (mulR n k m q).1.text), .slice none 0 0, .slice none 0 0], .int .i64 (mulR n k m q).2]) W)) := fun W h g => mulR_any _ _ _ _ _ _ W h g
  have Gmul : Hid (∀ W, Vo W (· < W.heap.size) n k (.agg #[.int .i64 n.kind, .int .i64 n.int, .int .i64 n.scale, .string (str n.text), .slice An n.names.length cAn, .slice Ak k.len cAk]) → Vo W (· < W.heap.size) m q (.agg #[.int .i64 m.kind, .int .i64 m.int, .int .i64 m.scale, .string (str m.text), .slice Bn m.names.length cBn, .slice Bk q.len cBk]) → Calls Tryd.prog 23 #[.agg #[.int .i64 n.kind, .int .i64 n.int, .int .i64 n.scale, .string (str n.text), .slice An n.names.length cAn, .slice Ak k.len cAk], .agg #[.int .i64 m.kind, .int .i64 m.int, .int .i64 m.scale, .string (str m.text), .slice Bn m.names.length cBn, .slice Bk q.len cBk]] W (Ret (.tuple #[.agg #[.int .i64 (mulR n k m q).1.kind, .int .i64 (mulR n k m q).1.int, .int .i64 (mulR n k m q).1.scale, .string (str (mulR n k m q).1.text), .slice none 0 0, .slice none 0 0], .int .i64 (mulR n k m q).2]) W)) := fun W h g => rmul6_any _ _ _ _ _ _ W h g
  have Pmul : Hid (plainN (mulR n k m q).1) := mulR_plain _ _ _ _
  have Hneg : Hid (∀ W, Vo W (· < W.heap.size) n k (.agg #[.int .i64 n.kind, .int .i64 n.int, .int .i64 n.scale, .string (str n.text), .slice An n.names.length cAn, .slice Ak k.len cAk]) → Calls Tryd.prog 24 #[.agg #[.int .i64 n.kind, .int .i64 n.int, .int .i64 n.scale, .string (str n.text), .slice An n.names.length cAn, .slice Ak k.len cAk]] W (Ret (.tuple #[.agg #[.int .i64 (negR n k).1.kind, .int .i64 (negR n k).1.int, .int .i64 (negR n k).1.scale, .string (str (negR n k).1.text), .slice none 0 0, .slice none 0 0], .int .i64 (negR n k).2]) W)) := fun W h => neg6_any _ _ _ W h
  have Gneg : Hid (∀ W, Vo W (· < W.heap.size) n k (.agg #[.int .i64 n.kind, .int .i64 n.int, .int .i64 n.scale, .string (str n.text), .slice An n.names.length cAn, .slice Ak k.len cAk]) → Calls Tryd.prog 25 #[.agg #[.int .i64 n.kind, .int .i64 n.int, .int .i64 n.scale, .string (str n.text), .slice An n.names.length cAn, .slice Ak k.len cAk]] W (Ret (.tuple #[.agg #[.int .i64 (negR n k).1.kind, .int .i64 (negR n k).1.int, .int .i64 (negR n k).1.scale, .string (str (negR n k).1.text), .slice none 0 0, .slice none 0 0], .int .i64 (negR n k).2]) W)) := fun W h => rneg6_any _ _ _ W h
  have Pneg : Hid (plainN (negR n k).1) := negR_plain _ _
  have Hcmp : Hid (∀ W, Vo W (· < W.heap.size) n k (.agg #[.int .i64 n.kind, .int .i64 n.int, .int .i64 n.scale, .string (str n.text), .slice An n.names.length cAn, .slice Ak k.len cAk]) → Vo W (· < W.heap.size) m q (.agg #[.int .i64 m.kind, .int .i64 m.int, .int .i64 m.scale, .string (str m.text), .slice Bn m.names.length cBn, .slice Bk q.len cBk]) → Calls Tryd.prog 19 #[.agg #[.int .i64 n.kind, .int .i64 n.int, .int .i64 n.scale, .string (str n.text), .slice An n.names.length cAn, .slice Ak k.len cAk], .agg #[.int .i64 m.kind, .int .i64 m.int, .int .i64 m.scale, .string (str m.text), .slice Bn m.names.length cBn, .slice Bk q.len cBk]] W (Ret (.tuple #[.int .i64 (cmpR n k m q).1, .int .i64 (cmpR n k m q).2]) W)) := fun W h g => cmp6_any _ _ _ _ _ _ W h g
  have Gcmp : Hid (∀ W, Vo W (· < W.heap.size) n k (.agg #[.int .i64 n.kind, .int .i64 n.int, .int .i64 n.scale, .string (str n.text), .slice An n.names.length cAn, .slice Ak k.len cAk]) → Vo W (· < W.heap.size) m q (.agg #[.int .i64 m.kind, .int .i64 m.int, .int .i64 m.scale, .string (str m.text), .slice Bn m.names.length cBn, .slice Bk q.len cBk]) → Calls Tryd.prog 26 #[.agg #[.int .i64 n.kind, .int .i64 n.int, .int .i64 n.scale, .string (str n.text), .slice An n.names.length cAn, .slice Ak k.len cAk], .agg #[.int .i64 m.kind, .int .i64 m.int, .int .i64 m.scale, .string (str m.text), .slice Bn m.names.length cBn, .slice Bk q.len cBk]] W (Ret (.tuple #[.int .i64 (cmpR n k m q).1, .int .i64 (cmpR n k m q).2]) W)) := fun W h g => rcmp6_any _ _ _ _ _ _ W h g
  generalize (addR n k m q).1 = radd at *
  generalize (addR n k m q).2 = eadd at *
  have Eadd : Hid (∀ w, Calls Tryd.prog 12 #[.agg #[.int .i64 radd.kind, .int .i64 radd.int, .int .i64 radd.scale, .string (str radd.text), .slice none 0 0, .slice none 0 0], .int .i64 eadd, .agg #[.int .i64 radd.kind, .int .i64 radd.int, .int .i64 radd.scale, .string (str radd.text), .slice none 0 0, .slice none 0 0], .int .i64 eadd] w (Ret (.bool true) w)) := fun w => got_same Padd.out eadd w
  generalize (subR n k m q).1 = rsub at *
  generalize (subR n k m q).2 = esub at *
  have Esub : Hid (∀ w, Calls Tryd.prog 12 #[.agg #[.int .i64 rsub.kind, .int .i64 rsub.int, .int .i64 rsub.scale, .string (str rsub.text), .slice none 0 0, .slice none 0 0], .int .i64 esub, .agg #[.int .i64 rsub.kind, .int .i64 rsub.int, .int .i64 rsub.scale, .string (str rsub.text), .slice none 0 0, .slice none 0 0], .int .i64 esub] w (Ret (.bool true) w)) := fun w => got_same Psub.out esub w
  generalize (mulR n k m q).1 = rmul at *
  generalize (mulR n k m q).2 = emul at *
  have Emul : Hid (∀ w, Calls Tryd.prog 12 #[.agg #[.int .i64 rmul.kind, .int .i64 rmul.int, .int .i64 rmul.scale, .string (str rmul.text), .slice none 0 0, .slice none 0 0], .int .i64 emul, .agg #[.int .i64 rmul.kind, .int .i64 rmul.int, .int .i64 rmul.scale, .string (str rmul.text), .slice none 0 0, .slice none 0 0], .int .i64 emul] w (Ret (.bool true) w)) := fun w => got_same Pmul.out emul w
  generalize (negR n k).1 = rneg at *
  generalize (negR n k).2 = eneg at *
  have Eneg : Hid (∀ w, Calls Tryd.prog 12 #[.agg #[.int .i64 rneg.kind, .int .i64 rneg.int, .int .i64 rneg.scale, .string (str rneg.text), .slice none 0 0, .slice none 0 0], .int .i64 eneg, .agg #[.int .i64 rneg.kind, .int .i64 rneg.int, .int .i64 rneg.scale, .string (str rneg.text), .slice none 0 0, .slice none 0 0], .int .i64 eneg] w (Ret (.bool true) w)) := fun w => got_same Pneg.out eneg w
  generalize (cmpR n k m q).1 = c at *
  generalize (cmpR n k m q).2 = ec at *
  have HK : Hid (∀ w', Below w.heap.size w w' → Calls Tryd.prog 13 #[] w' (Ret (.bool true) w')) := fun w' hb => known6_any w' (tab_below htab hb)
  clear hv hu htab h1 h2 hok0 hok1
  go_enter Tryd.func8, Tryd.ntmps8
  go_upto_region 1 with fail
  clear hW0
  obtain ⟨x0_0, x0_1, x0_2, x0_3, x0_4, x0_5⟩ : _ := ST0.out.six 0 rfl
  go_wp2_with fail
  refine (HP0.out _ (ST0.out.v 0 rfl)).mono ?_
  rintro e' u1 ⟨rfl, c1⟩
  have ST1 : Hid (St w [⟨w.heap.size, n, k, An, cAn, Ak, cAk⟩, ⟨w.heap.size + 1, m, q, Bn, cBn, Bk, cBk⟩] u1) := ST0.out.step c1
  clear c1
  clear x0_0 x0_1 x0_2 x0_3 x0_4 x0_5
  obtain ⟨x1_0, x1_1, x1_2, x1_3, x1_4, x1_5⟩ : _ := ST1.out.six 1 rfl
  go_wp2_with fail
  refine (HP1.out _ (ST1.out.v 1 rfl)).mono ?_
  rintro e' u2 ⟨rfl, c2⟩
  have ST2 : Hid (St w [⟨w.heap.size, n, k, An, cAn, Ak, cAk⟩, ⟨w.heap.size + 1, m, q, Bn, cBn, Bk, cBk⟩] u2) := ST1.out.step c2
  clear c2
  clear x1_0 x1_1 x1_2 x1_3 x1_4 x1_5
  obtain ⟨x0_0, x0_1, x0_2, x0_3, x0_4, x0_5⟩ : _ := ST2.out.six 0 rfl
  obtain ⟨x1_0, x1_1, x1_2, x1_3, x1_4, x1_5⟩ : _ := ST2.out.six 1 rfl
  go_upto_region 4 with (go_at_call 15; refine (Hadd.out _ (ST2.out.v 0 rfl) (ST2.out.v 1 rfl)).mono ?_; rintro e' u3 ⟨rfl, c3⟩)
  obtain ⟨W3, hW3⟩ : ∃ W3, u3.alloc (.cells #[.int .i64 radd.kind, .int .i64 radd.int, .int .i64 radd.scale, .string (str radd.text), .slice none 0 0, .slice none 0 0] 25) = W3 := ⟨_, rfl⟩
  rw [hW3]
  have ST3 : Hid (St w [⟨w.heap.size, n, k, An, cAn, Ak, cAk⟩, ⟨w.heap.size + 1, m, q, Bn, cBn, Bk, cBk⟩, ⟨u3.heap.size, radd, .nil, none, 0, none, 0⟩] W3) := by show St _ _ _; rw [← hW3]; exact (ST2.out.step c3).put2 Padd.out
  clear hW3 c3
  clear x0_0 x0_1 x0_2 x0_3 x0_4 x0_5 x1_0 x1_1 x1_2 x1_3 x1_4 x1_5
  obtain ⟨x0_0, x0_1, x0_2, x0_3, x0_4, x0_5⟩ : _ := ST3.out.six 0 rfl
  obtain ⟨x1_0, x1_1, x1_2, x1_3, x1_4, x1_5⟩ : _ := ST3.out.six 1 rfl
  go_upto_region 5 with (go_at_call 21; refine (Gadd.out _ (ST3.out.v 0 rfl) (ST3.out.v 1 rfl)).mono ?_; rintro e' u4 ⟨rfl, c4⟩)
  obtain ⟨W4, hW4⟩ : ∃ W4, u4.alloc (.cells #[.int .i64 radd.kind, .int .i64 radd.int, .int .i64 radd.scale, .string (str radd.text), .slice none 0 0, .slice none 0 0] 25) = W4 := ⟨_, rfl⟩
  rw [hW4]
  have ST4 : Hid (St w [⟨w.heap.size, n, k, An, cAn, Ak, cAk⟩, ⟨w.heap.size + 1, m, q, Bn, cBn, Bk, cBk⟩, ⟨u3.heap.size, radd, .nil, none, 0, none, 0⟩, ⟨u4.heap.size, radd, .nil, none, 0, none, 0⟩] W4) := by show St _ _ _; rw [← hW4]; exact (ST3.out.step c4).put2 Padd.out
  clear hW4 c4
  clear x0_0 x0_1 x0_2 x0_3 x0_4 x0_5 x1_0 x1_1 x1_2 x1_3 x1_4 x1_5
  obtain ⟨x0_0, x0_1, x0_2, x0_3, x0_4, x0_5⟩ : _ := ST4.out.six 0 rfl
  obtain ⟨x1_0, x1_1, x1_2, x1_3, x1_4, x1_5⟩ : _ := ST4.out.six 1 rfl
  go_upto_region 6 with (go_at_call 18; refine (Hsub.out _ (ST4.out.v 0 rfl) (ST4.out.v 1 rfl)).mono ?_; rintro e' u5 ⟨rfl, c5⟩)
  obtain ⟨W5, hW5⟩ : ∃ W5, u5.alloc (.cells #[.int .i64 rsub.kind, .int .i64 rsub.int, .int .i64 rsub.scale, .string (str rsub.text), .slice none 0 0, .slice none 0 0] 25) = W5 := ⟨_, rfl⟩
  rw [hW5]
  have ST5 : Hid (St w [⟨w.heap.size, n, k, An, cAn, Ak, cAk⟩, ⟨w.heap.size + 1, m, q, Bn, cBn, Bk, cBk⟩, ⟨u3.heap.size, radd, .nil, none, 0, none, 0⟩, ⟨u4.heap.size, radd, .nil, none, 0, none, 0⟩, ⟨u5.heap.size, rsub, .nil, none, 0, none, 0⟩] W5) := by show St _ _ _; rw [← hW5]; exact (ST4.out.step c5).put2 Psub.out
  clear hW5 c5
  clear x0_0 x0_1 x0_2 x0_3 x0_4 x0_5 x1_0 x1_1 x1_2 x1_3 x1_4 x1_5
  obtain ⟨x0_0, x0_1, x0_2, x0_3, x0_4, x0_5⟩ : _ := ST5.out.six 0 rfl
  obtain ⟨x1_0, x1_1, x1_2, x1_3, x1_4, x1_5⟩ : _ := ST5.out.six 1 rfl
  go_upto_region 7 with (go_at_call 22; refine (Gsub.out _ (ST5.out.v 0 rfl) (ST5.out.v 1 rfl)).mono ?_; rintro e' u6 ⟨rfl, c6⟩)
  obtain ⟨W6, hW6⟩ : ∃ W6, u6.alloc (.cells #[.int .i64 rsub.kind, .int .i64 rsub.int, .int .i64 rsub.scale, .string (str rsub.text), .slice none 0 0, .slice none 0 0] 25) = W6 := ⟨_, rfl⟩
  rw [hW6]
  have ST6 : Hid (St w [⟨w.heap.size, n, k, An, cAn, Ak, cAk⟩, ⟨w.heap.size + 1, m, q, Bn, cBn, Bk, cBk⟩, ⟨u3.heap.size, radd, .nil, none, 0, none, 0⟩, ⟨u4.heap.size, radd, .nil, none, 0, none, 0⟩, ⟨u5.heap.size, rsub, .nil, none, 0, none, 0⟩, ⟨u6.heap.size, rsub, .nil, none, 0, none, 0⟩] W6) := by show St _ _ _; rw [← hW6]; exact (ST5.out.step c6).put2 Psub.out
  clear hW6 c6
  clear x0_0 x0_1 x0_2 x0_3 x0_4 x0_5 x1_0 x1_1 x1_2 x1_3 x1_4 x1_5
  obtain ⟨x0_0, x0_1, x0_2, x0_3, x0_4, x0_5⟩ : _ := ST6.out.six 0 rfl
  obtain ⟨x1_0, x1_1, x1_2, x1_3, x1_4, x1_5⟩ : _ := ST6.out.six 1 rfl
  go_upto_region 8 with (go_at_call 16; refine (Hmul.out _ (ST6.out.v 0 rfl) (ST6.out.v 1 rfl)).mono ?_; rintro e' u7 ⟨rfl, c7⟩)
  obtain ⟨W7, hW7⟩ : ∃ W7, u7.alloc (.cells #[.int .i64 rmul.kind, .int .i64 rmul.int, .int .i64 rmul.scale, .string (str rmul.text), .slice none 0 0, .slice none 0 0] 25) = W7 := ⟨_, rfl⟩
  rw [hW7]
  have ST7 : Hid (St w [⟨w.heap.size, n, k, An, cAn, Ak, cAk⟩, ⟨w.heap.size + 1, m, q, Bn, cBn, Bk, cBk⟩, ⟨u3.heap.size, radd, .nil, none, 0, none, 0⟩, ⟨u4.heap.size, radd, .nil, none, 0, none, 0⟩, ⟨u5.heap.size, rsub, .nil, none, 0, none, 0⟩, ⟨u6.heap.size, rsub, .nil, none, 0, none, 0⟩, ⟨u7.heap.size, rmul, .nil, none, 0, none, 0⟩] W7) := by show St _ _ _; rw [← hW7]; exact (ST6.out.step c7).put2 Pmul.out
  clear hW7 c7
  clear x0_0 x0_1 x0_2 x0_3 x0_4 x0_5 x1_0 x1_1 x1_2 x1_3 x1_4 x1_5
  obtain ⟨x0_0, x0_1, x0_2, x0_3, x0_4, x0_5⟩ : _ := ST7.out.six 0 rfl
  obtain ⟨x1_0, x1_1, x1_2, x1_3, x1_4, x1_5⟩ : _ := ST7.out.six 1 rfl
  go_upto_region 9 with (go_at_call 23; refine (Gmul.out _ (ST7.out.v 0 rfl) (ST7.out.v 1 rfl)).mono ?_; rintro e' u8 ⟨rfl, c8⟩)
  obtain ⟨W8, hW8⟩ : ∃ W8, u8.alloc (.cells #[.int .i64 rmul.kind, .int .i64 rmul.int, .int .i64 rmul.scale, .string (str rmul.text), .slice none 0 0, .slice none 0 0] 25) = W8 := ⟨_, rfl⟩
  rw [hW8]
  have ST8 : Hid (St w [⟨w.heap.size, n, k, An, cAn, Ak, cAk⟩, ⟨w.heap.size + 1, m, q, Bn, cBn, Bk, cBk⟩, ⟨u3.heap.size, radd, .nil, none, 0, none, 0⟩, ⟨u4.heap.size, radd, .nil, none, 0, none, 0⟩, ⟨u5.heap.size, rsub, .nil, none, 0, none, 0⟩, ⟨u6.heap.size, rsub, .nil, none, 0, none, 0⟩, ⟨u7.heap.size, rmul, .nil, none, 0, none, 0⟩, ⟨u8.heap.size, rmul, .nil, none, 0, none, 0⟩] W8) := by show St _ _ _; rw [← hW8]; exact (ST7.out.step c8).put2 Pmul.out
  clear hW8 c8
  clear x0_0 x0_1 x0_2 x0_3 x0_4 x0_5 x1_0 x1_1 x1_2 x1_3 x1_4 x1_5
  obtain ⟨x0_0, x0_1, x0_2, x0_3, x0_4, x0_5⟩ : _ := ST8.out.six 0 rfl
  go_upto_region 10 with (go_at_call 24; refine (Hneg.out _ (ST8.out.v 0 rfl)).mono ?_; rintro e' u9 ⟨rfl, c9⟩)
  obtain ⟨W9, hW9⟩ : ∃ W9, u9.alloc (.cells #[.int .i64 rneg.kind, .int .i64 rneg.int, .int .i64 rneg.scale, .string (str rneg.text), .slice none 0 0, .slice none 0 0] 25) = W9 := ⟨_, rfl⟩
  rw [hW9]
  have ST9 : Hid (St w [⟨w.heap.size, n, k, An, cAn, Ak, cAk⟩, ⟨w.heap.size + 1, m, q, Bn, cBn, Bk, cBk⟩, ⟨u3.heap.size, radd, .nil, none, 0, none, 0⟩, ⟨u4.heap.size, radd, .nil, none, 0, none, 0⟩, ⟨u5.heap.size, rsub, .nil, none, 0, none, 0⟩, ⟨u6.heap.size, rsub, .nil, none, 0, none, 0⟩, ⟨u7.heap.size, rmul, .nil, none, 0, none, 0⟩, ⟨u8.heap.size, rmul, .nil, none, 0, none, 0⟩, ⟨u9.heap.size, rneg, .nil, none, 0, none, 0⟩] W9) := by show St _ _ _; rw [← hW9]; exact (ST8.out.step c9).put2 Pneg.out
  clear hW9 c9
  clear x0_0 x0_1 x0_2 x0_3 x0_4 x0_5
  obtain ⟨x0_0, x0_1, x0_2, x0_3, x0_4, x0_5⟩ : _ := ST9.out.six 0 rfl
  go_upto_region 11 with (go_at_call 25; refine (Gneg.out _ (ST9.out.v 0 rfl)).mono ?_; rintro e' u10 ⟨rfl, c10⟩)
  obtain ⟨W10, hW10⟩ : ∃ W10, u10.alloc (.cells #[.int .i64 rneg.kind, .int .i64 rneg.int, .int .i64 rneg.scale, .string (str rneg.text), .slice none 0 0, .slice none 0 0] 25) = W10 := ⟨_, rfl⟩
  rw [hW10]
  have ST10 : Hid (St w [⟨w.heap.size, n, k, An, cAn, Ak, cAk⟩, ⟨w.heap.size + 1, m, q, Bn, cBn, Bk, cBk⟩, ⟨u3.heap.size, radd, .nil, none, 0, none, 0⟩, ⟨u4.heap.size, radd, .nil, none, 0, none, 0⟩, ⟨u5.heap.size, rsub, .nil, none, 0, none, 0⟩, ⟨u6.heap.size, rsub, .nil, none, 0, none, 0⟩, ⟨u7.heap.size, rmul, .nil, none, 0, none, 0⟩, ⟨u8.heap.size, rmul, .nil, none, 0, none, 0⟩, ⟨u9.heap.size, rneg, .nil, none, 0, none, 0⟩, ⟨u10.heap.size, rneg, .nil, none, 0, none, 0⟩] W10) := by show St _ _ _; rw [← hW10]; exact (ST9.out.step c10).put2 Pneg.out
  clear hW10 c10
  clear x0_0 x0_1 x0_2 x0_3 x0_4 x0_5
  obtain ⟨x0_0, x0_1, x0_2, x0_3, x0_4, x0_5⟩ : _ := ST10.out.six 0 rfl
  obtain ⟨x1_0, x1_1, x1_2, x1_3, x1_4, x1_5⟩ : _ := ST10.out.six 1 rfl
  go_wp2_with fail
  refine (Hcmp.out _ (ST10.out.v 0 rfl) (ST10.out.v 1 rfl)).mono ?_
  rintro e' u11 ⟨rfl, c11⟩
  have ST11 : Hid (St w [⟨w.heap.size, n, k, An, cAn, Ak, cAk⟩, ⟨w.heap.size + 1, m, q, Bn, cBn, Bk, cBk⟩, ⟨u3.heap.size, radd, .nil, none, 0, none, 0⟩, ⟨u4.heap.size, radd, .nil, none, 0, none, 0⟩, ⟨u5.heap.size, rsub, .nil, none, 0, none, 0⟩, ⟨u6.heap.size, rsub, .nil, none, 0, none, 0⟩, ⟨u7.heap.size, rmul, .nil, none, 0, none, 0⟩, ⟨u8.heap.size, rmul, .nil, none, 0, none, 0⟩, ⟨u9.heap.size, rneg, .nil, none, 0, none, 0⟩, ⟨u10.heap.size, rneg, .nil, none, 0, none, 0⟩] u11) := ST10.out.step c11
  clear c11
  clear x0_0 x0_1 x0_2 x0_3 x0_4 x0_5 x1_0 x1_1 x1_2 x1_3 x1_4 x1_5
  obtain ⟨x0_0, x0_1, x0_2, x0_3, x0_4, x0_5⟩ : _ := ST11.out.six 0 rfl
  obtain ⟨x1_0, x1_1, x1_2, x1_3, x1_4, x1_5⟩ : _ := ST11.out.six 1 rfl
  go_wp2_with fail
  refine (Gcmp.out _ (ST11.out.v 0 rfl) (ST11.out.v 1 rfl)).mono ?_
  rintro e' u12 ⟨rfl, c12⟩
  have ST12 : Hid (St w [⟨w.heap.size, n, k, An, cAn, Ak, cAk⟩, ⟨w.heap.size + 1, m, q, Bn, cBn, Bk, cBk⟩, ⟨u3.heap.size, radd, .nil, none, 0, none, 0⟩, ⟨u4.heap.size, radd, .nil, none, 0, none, 0⟩, ⟨u5.heap.size, rsub, .nil, none, 0, none, 0⟩, ⟨u6.heap.size, rsub, .nil, none, 0, none, 0⟩, ⟨u7.heap.size, rmul, .nil, none, 0, none, 0⟩, ⟨u8.heap.size, rmul, .nil, none, 0, none, 0⟩, ⟨u9.heap.size, rneg, .nil, none, 0, none, 0⟩, ⟨u10.heap.size, rneg, .nil, none, 0, none, 0⟩] u12) := ST11.out.step c12
  clear c12
  clear x0_0 x0_1 x0_2 x0_3 x0_4 x0_5 x1_0 x1_1 x1_2 x1_3 x1_4 x1_5
  have qc : (c == c) = true := by simp
  have qe : (ec == ec) = true := by simp
  obtain ⟨x2_0, x2_1, x2_2, x2_3, x2_4, x2_5⟩ : _ := ST12.out.six2 2 rfl Padd.out
  obtain ⟨x3_0, x3_1, x3_2, x3_3, x3_4, x3_5⟩ : _ := ST12.out.six2 3 rfl Padd.out
  go_wp2_with fail
  refine (Eadd.out _).mono ?_
  rintro e' u13 ⟨rfl, c13⟩
  have ST13 : Hid (St w [⟨w.heap.size, n, k, An, cAn, Ak, cAk⟩, ⟨w.heap.size + 1, m, q, Bn, cBn, Bk, cBk⟩, ⟨u3.heap.size, radd, .nil, none, 0, none, 0⟩, ⟨u4.heap.size, radd, .nil, none, 0, none, 0⟩, ⟨u5.heap.size, rsub, .nil, none, 0, none, 0⟩, ⟨u6.heap.size, rsub, .nil, none, 0, none, 0⟩, ⟨u7.heap.size, rmul, .nil, none, 0, none, 0⟩, ⟨u8.heap.size, rmul, .nil, none, 0, none, 0⟩, ⟨u9.heap.size, rneg, .nil, none, 0, none, 0⟩, ⟨u10.heap.size, rneg, .nil, none, 0, none, 0⟩] u13) := ST12.out.step c13
  clear c13
  clear x2_0 x2_1 x2_2 x2_3 x2_4 x2_5 x3_0 x3_1 x3_2 x3_3 x3_4 x3_5
  obtain ⟨x4_0, x4_1, x4_2, x4_3, x4_4, x4_5⟩ : _ := ST13.out.six2 4 rfl Psub.out
  obtain ⟨x5_0, x5_1, x5_2, x5_3, x5_4, x5_5⟩ : _ := ST13.out.six2 5 rfl Psub.out
  go_wp2_with fail
  refine (Esub.out _).mono ?_
  rintro e' u14 ⟨rfl, c14⟩
  have ST14 : Hid (St w [⟨w.heap.size, n, k, An, cAn, Ak, cAk⟩, ⟨w.heap.size + 1, m, q, Bn, cBn, Bk, cBk⟩, ⟨u3.heap.size, radd, .nil, none, 0, none, 0⟩, ⟨u4.heap.size, radd, .nil, none, 0, none, 0⟩, ⟨u5.heap.size, rsub, .nil, none, 0, none, 0⟩, ⟨u6.heap.size, rsub, .nil, none, 0, none, 0⟩, ⟨u7.heap.size, rmul, .nil, none, 0, none, 0⟩, ⟨u8.heap.size, rmul, .nil, none, 0, none, 0⟩, ⟨u9.heap.size, rneg, .nil, none, 0, none, 0⟩, ⟨u10.heap.size, rneg, .nil, none, 0, none, 0⟩] u14) := ST13.out.step c14
  clear c14
  clear x4_0 x4_1 x4_2 x4_3 x4_4 x4_5 x5_0 x5_1 x5_2 x5_3 x5_4 x5_5
  obtain ⟨x6_0, x6_1, x6_2, x6_3, x6_4, x6_5⟩ : _ := ST14.out.six2 6 rfl Pmul.out
  obtain ⟨x7_0, x7_1, x7_2, x7_3, x7_4, x7_5⟩ : _ := ST14.out.six2 7 rfl Pmul.out
  go_wp2_with fail
  refine (Emul.out _).mono ?_
  rintro e' u15 ⟨rfl, c15⟩
  have ST15 : Hid (St w [⟨w.heap.size, n, k, An, cAn, Ak, cAk⟩, ⟨w.heap.size + 1, m, q, Bn, cBn, Bk, cBk⟩, ⟨u3.heap.size, radd, .nil, none, 0, none, 0⟩, ⟨u4.heap.size, radd, .nil, none, 0, none, 0⟩, ⟨u5.heap.size, rsub, .nil, none, 0, none, 0⟩, ⟨u6.heap.size, rsub, .nil, none, 0, none, 0⟩, ⟨u7.heap.size, rmul, .nil, none, 0, none, 0⟩, ⟨u8.heap.size, rmul, .nil, none, 0, none, 0⟩, ⟨u9.heap.size, rneg, .nil, none, 0, none, 0⟩, ⟨u10.heap.size, rneg, .nil, none, 0, none, 0⟩] u15) := ST14.out.step c15
  clear c15
  clear x6_0 x6_1 x6_2 x6_3 x6_4 x6_5 x7_0 x7_1 x7_2 x7_3 x7_4 x7_5
  obtain ⟨x8_0, x8_1, x8_2, x8_3, x8_4, x8_5⟩ : _ := ST15.out.six2 8 rfl Pneg.out
  obtain ⟨x9_0, x9_1, x9_2, x9_3, x9_4, x9_5⟩ : _ := ST15.out.six2 9 rfl Pneg.out
  go_wp2_with fail
  refine (Eneg.out _).mono ?_
  rintro e' u16 ⟨rfl, c16⟩
  have ST16 : Hid (St w [⟨w.heap.size, n, k, An, cAn, Ak, cAk⟩, ⟨w.heap.size + 1, m, q, Bn, cBn, Bk, cBk⟩, ⟨u3.heap.size, radd, .nil, none, 0, none, 0⟩, ⟨u4.heap.size, radd, .nil, none, 0, none, 0⟩, ⟨u5.heap.size, rsub, .nil, none, 0, none, 0⟩, ⟨u6.heap.size, rsub, .nil, none, 0, none, 0⟩, ⟨u7.heap.size, rmul, .nil, none, 0, none, 0⟩, ⟨u8.heap.size, rmul, .nil, none, 0, none, 0⟩, ⟨u9.heap.size, rneg, .nil, none, 0, none, 0⟩, ⟨u10.heap.size, rneg, .nil, none, 0, none, 0⟩] u16) := ST15.out.step c16
  clear c16
  clear x8_0 x8_1 x8_2 x8_3 x8_4 x8_5 x9_0 x9_1 x9_2 x9_3 x9_4 x9_5
  go_wp2_with fail
  refine (HK.out _ ST16.out.1).mono ?_
  rintro e' u17 ⟨rfl, c17⟩
  have ST17 : Hid (St w [⟨w.heap.size, n, k, An, cAn, Ak, cAk⟩, ⟨w.heap.size + 1, m, q, Bn, cBn, Bk, cBk⟩, ⟨u3.heap.size, radd, .nil, none, 0, none, 0⟩, ⟨u4.heap.size, radd, .nil, none, 0, none, 0⟩, ⟨u5.heap.size, rsub, .nil, none, 0, none, 0⟩, ⟨u6.heap.size, rsub, .nil, none, 0, none, 0⟩, ⟨u7.heap.size, rmul, .nil, none, 0, none, 0⟩, ⟨u8.heap.size, rmul, .nil, none, 0, none, 0⟩, ⟨u9.heap.size, rneg, .nil, none, 0, none, 0⟩, ⟨u10.heap.size, rneg, .nil, none, 0, none, 0⟩] u17) := ST16.out.step c17
  clear c17
  go_wp2_with fail
  go_ret
  first | exact ⟨rfl, ST17.out.1⟩ | exact ⟨ret_bo (by simp; omega), ST17.out.1⟩
theorem decimalReckons_any (n : Nd) (k : F) (m : Nd) (q : F) (v u : Value) (w : World) (hv : Vo w (· < w.heap.size) n k v) (hu : Vo w (· < w.heap.size) m q u) (htab : Lib.TabIs Tryd.prog w "internal/strconv.uint64pow10" .u64 Lib.pow10Tab) :
    Calls Tryd.prog 8 #[v, u] w (Ret (.bool true) w) := by
  cases h1 : plB n k with
  | false => exact decimalReckons_0 n k m q v u w hv hu h1
  | true =>
    cases h2 : plB m q with
    | false => exact decimalReckons_1 n k m q v u w hv hu h1 h2
    | true => exact decimalReckons_c n k m q v u w hv hu htab h1 h2
end Go.Proofs.YtfcbcbpnlnkpcaaDoor

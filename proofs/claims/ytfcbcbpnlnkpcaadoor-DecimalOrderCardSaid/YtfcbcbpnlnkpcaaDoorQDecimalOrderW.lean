/- DecimalOrder: the walk of the law. (Printed by gen/dorder.py.) -/
import Derived.Test.YtfcbcbpnlnkpcaaDoorQKnown6
import Derived.Test.YtfcbcbpnlnkpcaaDoorQAn
import Derived.Test.YtfcbcbpnlnkpcaaDoorQDecCmp
namespace Go.Proofs.YtfcbcbpnlnkpcaaDoor
set_option linter.all false
open Go.RowKit
def oneN : Nd := ⟨3, 0, 0, [], []⟩
theorem oneN_num : isNum oneN := ⟨rfl, rfl, ⟨by decide, by decide⟩, .inl ⟨rfl, rfl⟩⟩
theorem cmpR_num {n m : Nd} (hn : isNum n) (hm : isNum m) : cmpR n .nil m .nil = (cmpI (vN n) (vN m), 0) := by unfold cmpR; rw [num_numB hn, num_numB hm, cmpV_num hn hm]; rfl
theorem cmpI_sub (a b : Int) : cmpI (a - b) 0 = cmpI a b := by unfold cmpI; (repeat' split) <;> omega
theorem order_err {n m : Nd} (hn : isNum n) (hm : isNum m) : (subR n .nil m .nil).2 = 0 ∨ (subR n .nil m .nil).2 = 10 := by
  rw [subR_num hn hm]
  unfold lsR aE
  split
  · exact .inl rfl
  · exact .inr rfl
theorem order_law {n m : Nd} (hn : isNum n) (hm : isNum m) (h : (subR n .nil m .nil).2 = 0) : cmpR (subR n .nil m .nil).1 .nil oneN .nil = (cmpI (vN n) (vN m), 0) := by
  rw [subR_num hn hm] at *
  have ⟨h1, h2⟩ := lsR_val h
  rw [cmpR_num h1 oneN_num, h2]
  have e : vN oneN = 0 := rfl
  rw [e, cmpI_sub]

set_option maxRecDepth 100000 in
set_option maxHeartbeats 6400000 in
theorem decimalOrder_0 (n : Nd) (k : F) (m : Nd) (q : F) (v : Value) (u : Value) (w : World) (hv : Vo w (· < w.heap.size) n k v) (hu : Vo w (· < w.heap.size) m q u)  (h1 : numB n k = false) :
    Calls Tryd.prog 7 #[v, u] w (Ret (.bool true) w) := by
  obtain ⟨An, cAn, Ak, cAk, rfl, hok0, _, _, _, _⟩ := id hv
  obtain ⟨Bn, cBn, Bk, cBk, rfl, hok1, _, _, _, _⟩ := id hu
  obtain ⟨W0, hW0⟩ : ∃ W0, ((w.alloc (.cells #[.int .i64 n.kind, .int .i64 n.int, .int .i64 n.scale, .string (str n.text), .slice An n.names.length cAn, .slice Ak k.len cAk] 25)).alloc (.cells #[.int .i64 m.kind, .int .i64 m.int, .int .i64 m.scale, .string (str m.text), .slice Bn m.names.length cBn, .slice Bk q.len cBk] 25)) = W0 := ⟨_, rfl⟩
  have ST0 : Hid (St w [⟨w.heap.size, n, k, An, cAn, Ak, cAk⟩, ⟨w.heap.size + 1, m, q, Bn, cBn, Bk, cBk⟩] W0) := by
    have := (St.box_new (St.box_new (St.nil w) hv) hu)
    show St _ _ _
    rw [← hW0]
    simpa [ncells, Nat.add_assoc] using this
  unfold ncells
  have HI0 : Hid (∀ W, Vo W (· < W.heap.size) n k (.agg #[.int .i64 n.kind, .int .i64 n.int, .int .i64 n.scale, .string (str n.text), .slice An n.names.length cAn, .slice Ak k.len cAk]) → Calls Tryd.prog 14 #[.agg #[.int .i64 n.kind, .int .i64 n.int, .int .i64 n.scale, .string (str n.text), .slice An n.names.length cAn, .slice Ak k.len cAk]] W (Ret (.bool (numB n k)) W)) := fun W h => is_any n k _ W h
  have HI1 : Hid (∀ W, Vo W (· < W.heap.size) m q (.agg #[.int .i64 m.kind, .int .i64 m.int, .int .i64 m.scale, .string (str m.text), .slice Bn m.names.length cBn, .slice Bk q.len cBk]) → Calls Tryd.prog 14 #[.agg #[.int .i64 m.kind, .int .i64 m.int, .int .i64 m.scale, .string (str m.text), .slice Bn m.names.length cBn, .slice Bk q.len cBk]] W (Ret (.bool (numB m q)) W)) := fun W h => is_any m q _ W h
  rw [h1] at HI0
  clear hv hu h1
  go_enter Tryd.func7, Tryd.ntmps7
  go_upto_region 1 with fail
  clear hW0
  obtain ⟨x0_0, x0_1, x0_2, x0_3, x0_4, x0_5⟩ : _ := ST0.out.six 0 rfl
  go_wp2_with fail
  refine (HI0.out _ (ST0.out.v 0 rfl)).mono ?_
  rintro e' u1 ⟨rfl, c1⟩
  have ST1 : Hid (St w [⟨w.heap.size, n, k, An, cAn, Ak, cAk⟩, ⟨w.heap.size + 1, m, q, Bn, cBn, Bk, cBk⟩] u1) := ST0.out.step c1
  clear c1
  clear x0_0 x0_1 x0_2 x0_3 x0_4 x0_5
  go_wp2_with fail
  go_ret
  exact ⟨rfl, ST1.out.1⟩
set_option maxRecDepth 100000 in
set_option maxHeartbeats 6400000 in
theorem decimalOrder_1 (n : Nd) (k : F) (m : Nd) (q : F) (v : Value) (u : Value) (w : World) (hv : Vo w (· < w.heap.size) n k v) (hu : Vo w (· < w.heap.size) m q u)  (h1 : numB n k = true) (h2 : numB m q = false) :
    Calls Tryd.prog 7 #[v, u] w (Ret (.bool true) w) := by
  obtain ⟨An, cAn, Ak, cAk, rfl, hok0, _, _, _, _⟩ := id hv
  obtain ⟨Bn, cBn, Bk, cBk, rfl, hok1, _, _, _, _⟩ := id hu
  obtain ⟨W0, hW0⟩ : ∃ W0, ((w.alloc (.cells #[.int .i64 n.kind, .int .i64 n.int, .int .i64 n.scale, .string (str n.text), .slice An n.names.length cAn, .slice Ak k.len cAk] 25)).alloc (.cells #[.int .i64 m.kind, .int .i64 m.int, .int .i64 m.scale, .string (str m.text), .slice Bn m.names.length cBn, .slice Bk q.len cBk] 25)) = W0 := ⟨_, rfl⟩
  have ST0 : Hid (St w [⟨w.heap.size, n, k, An, cAn, Ak, cAk⟩, ⟨w.heap.size + 1, m, q, Bn, cBn, Bk, cBk⟩] W0) := by
    have := (St.box_new (St.box_new (St.nil w) hv) hu)
    show St _ _ _
    rw [← hW0]
    simpa [ncells, Nat.add_assoc] using this
  unfold ncells
  have HI0 : Hid (∀ W, Vo W (· < W.heap.size) n k (.agg #[.int .i64 n.kind, .int .i64 n.int, .int .i64 n.scale, .string (str n.text), .slice An n.names.length cAn, .slice Ak k.len cAk]) → Calls Tryd.prog 14 #[.agg #[.int .i64 n.kind, .int .i64 n.int, .int .i64 n.scale, .string (str n.text), .slice An n.names.length cAn, .slice Ak k.len cAk]] W (Ret (.bool (numB n k)) W)) := fun W h => is_any n k _ W h
  have HI1 : Hid (∀ W, Vo W (· < W.heap.size) m q (.agg #[.int .i64 m.kind, .int .i64 m.int, .int .i64 m.scale, .string (str m.text), .slice Bn m.names.length cBn, .slice Bk q.len cBk]) → Calls Tryd.prog 14 #[.agg #[.int .i64 m.kind, .int .i64 m.int, .int .i64 m.scale, .string (str m.text), .slice Bn m.names.length cBn, .slice Bk q.len cBk]] W (Ret (.bool (numB m q)) W)) := fun W h => is_any m q _ W h
  rw [h1] at HI0
  rw [h2] at HI1
  clear hv hu h1 h2
  go_enter Tryd.func7, Tryd.ntmps7
  go_upto_region 1 with fail
  clear hW0
  obtain ⟨x0_0, x0_1, x0_2, x0_3, x0_4, x0_5⟩ : _ := ST0.out.six 0 rfl
  go_wp2_with fail
  refine (HI0.out _ (ST0.out.v 0 rfl)).mono ?_
  rintro e' u1 ⟨rfl, c1⟩
  have ST1 : Hid (St w [⟨w.heap.size, n, k, An, cAn, Ak, cAk⟩, ⟨w.heap.size + 1, m, q, Bn, cBn, Bk, cBk⟩] u1) := ST0.out.step c1
  clear c1
  clear x0_0 x0_1 x0_2 x0_3 x0_4 x0_5
  obtain ⟨x1_0, x1_1, x1_2, x1_3, x1_4, x1_5⟩ : _ := ST1.out.six 1 rfl
  go_wp2_with fail
  refine (HI1.out _ (ST1.out.v 1 rfl)).mono ?_
  rintro e' u2 ⟨rfl, c2⟩
  have ST2 : Hid (St w [⟨w.heap.size, n, k, An, cAn, Ak, cAk⟩, ⟨w.heap.size + 1, m, q, Bn, cBn, Bk, cBk⟩] u2) := ST1.out.step c2
  clear c2
  clear x1_0 x1_1 x1_2 x1_3 x1_4 x1_5
  go_wp2_with fail
  go_ret
  exact ⟨rfl, ST2.out.1⟩
set_option maxRecDepth 100000 in
set_option maxHeartbeats 6400000 in
theorem decimalOrder_c (n : Nd) (k : F) (m : Nd) (q : F) (v : Value) (u : Value) (w : World) (hv : Vo w (· < w.heap.size) n k v) (hu : Vo w (· < w.heap.size) m q u) (htab : Lib.TabIs Tryd.prog w "internal/strconv.uint64pow10" .u64 Lib.pow10Tab) (h1 : numB n k = true) (h2 : numB m q = true) :
    Calls Tryd.prog 7 #[v, u] w (Ret (.bool true) w) := by
  obtain ⟨An, cAn, Ak, cAk, rfl, hok0, _, _, _, _⟩ := id hv
  obtain ⟨Bn, cBn, Bk, cBk, rfl, hok1, _, _, _, _⟩ := id hu
  obtain ⟨W0, hW0⟩ : ∃ W0, ((w.alloc (.cells #[.int .i64 n.kind, .int .i64 n.int, .int .i64 n.scale, .string (str n.text), .slice An n.names.length cAn, .slice Ak k.len cAk] 25)).alloc (.cells #[.int .i64 m.kind, .int .i64 m.int, .int .i64 m.scale, .string (str m.text), .slice Bn m.names.length cBn, .slice Bk q.len cBk] 25)) = W0 := ⟨_, rfl⟩
  have ST0 : Hid (St w [⟨w.heap.size, n, k, An, cAn, Ak, cAk⟩, ⟨w.heap.size + 1, m, q, Bn, cBn, Bk, cBk⟩] W0) := by
    have := (St.box_new (St.box_new (St.nil w) hv) hu)
    show St _ _ _
    rw [← hW0]
    simpa [ncells, Nat.add_assoc] using this
  unfold ncells
  obtain ⟨hn0, rfl⟩ := numB_num hok0 h1
  obtain ⟨hn1, rfl⟩ := numB_num hok1 h2
  have HI0 : Hid (∀ W, Vo W (· < W.heap.size) n .nil (.agg #[.int .i64 n.kind, .int .i64 n.int, .int .i64 n.scale, .string (str n.text), .slice An n.names.length cAn, .slice Ak F.nil.len cAk]) → Calls Tryd.prog 14 #[.agg #[.int .i64 n.kind, .int .i64 n.int, .int .i64 n.scale, .string (str n.text), .slice An n.names.length cAn, .slice Ak F.nil.len cAk]] W (Ret (.bool true) W)) := fun W h => by rw [← h1]; exact is_any n .nil _ W h
  have HI1 : Hid (∀ W, Vo W (· < W.heap.size) m .nil (.agg #[.int .i64 m.kind, .int .i64 m.int, .int .i64 m.scale, .string (str m.text), .slice Bn m.names.length cBn, .slice Bk F.nil.len cBk]) → Calls Tryd.prog 14 #[.agg #[.int .i64 m.kind, .int .i64 m.int, .int .i64 m.scale, .string (str m.text), .slice Bn m.names.length cBn, .slice Bk F.nil.len cBk]] W (Ret (.bool true) W)) := fun W h => by rw [← h2]; exact is_any m .nil _ W h
  have HC : Hid (∀ W, Vo W (· < W.heap.size) n .nil (.agg #[.int .i64 n.kind, .int .i64 n.int, .int .i64 n.scale, .string (str n.text), .slice An n.names.length cAn, .slice Ak F.nil.len cAk]) → Vo W (· < W.heap.size) m .nil (.agg #[.int .i64 m.kind, .int .i64 m.int, .int .i64 m.scale, .string (str m.text), .slice Bn m.names.length cBn, .slice Bk F.nil.len cBk]) → Calls Tryd.prog 19 #[.agg #[.int .i64 n.kind, .int .i64 n.int, .int .i64 n.scale, .string (str n.text), .slice An n.names.length cAn, .slice Ak F.nil.len cAk], .agg #[.int .i64 m.kind, .int .i64 m.int, .int .i64 m.scale, .string (str m.text), .slice Bn m.names.length cBn, .slice Bk F.nil.len cBk]] W (Ret (.tuple #[.int .i64 (cmpI (vN n) (vN m)), .int .i64 0]) W)) := fun W h g => by
    have h' := cmp6_any _ _ _ _ _ _ W h g
    rw [cmpR_num hn0 hn1] at h'
    exact h'
  have HS : Hid (∀ W, Vo W (· < W.heap.size) n .nil (.agg #[.int .i64 n.kind, .int .i64 n.int, .int .i64 n.scale, .string (str n.text), .slice An n.names.length cAn, .slice Ak F.nil.len cAk]) → Vo W (· < W.heap.size) m .nil (.agg #[.int .i64 m.kind, .int .i64 m.int, .int .i64 m.scale, .string (str m.text), .slice Bn m.names.length cBn, .slice Bk F.nil.len cBk]) → Calls Tryd.prog 18 #[.agg #[.int .i64 n.kind, .int .i64 n.int, .int .i64 n.scale, .string (str n.text), .slice An n.names.length cAn, .slice Ak F.nil.len cAk], .agg #[.int .i64 m.kind, .int .i64 m.int, .int .i64 m.scale, .string (str m.text), .slice Bn m.names.length cBn, .slice Bk F.nil.len cBk]] W (Ret (.tuple #[.agg #[.int .i64 (subR n .nil m .nil).1.kind, .int .i64 (subR n .nil m .nil).1.int, .int .i64 (subR n .nil m .nil).1.scale, .string (str (subR n .nil m .nil).1.text), .slice none 0 0, .slice none 0 0], .int .i64 (subR n .nil m .nil).2]) W)) := fun W h g => subR_any _ _ _ _ _ _ W h g
  have PS : Hid (plainN (subR n .nil m .nil).1) := subR_plain _ _ _ _
  have HE : Hid ((subR n .nil m .nil).2 = 0 ∨ (subR n .nil m .nil).2 = 10) := order_err hn0 hn1
  have HL : Hid ((subR n .nil m .nil).2 = 0 → cmpR (subR n .nil m .nil).1 .nil oneN .nil = ((cmpI (vN n) (vN m)), 0)) := order_law hn0 hn1
  generalize (subR n .nil m .nil).1 = s at *
  generalize (subR n .nil m .nil).2 = e at *
  generalize (cmpI (vN n) (vN m)) = c at *
  have HK : Hid (∀ w', Below w.heap.size w w' → Calls Tryd.prog 13 #[] w' (Ret (.bool true) w')) := fun w' hb => known6_any w' (tab_below htab hb)
  clear hv hu htab h1 h2 hn0 hn1 hok0 hok1
  go_enter Tryd.func7, Tryd.ntmps7
  go_upto_region 1 with fail
  clear hW0
  obtain ⟨x0_0, x0_1, x0_2, x0_3, x0_4, x0_5⟩ : _ := ST0.out.six 0 rfl
  go_wp2_with fail
  refine (HI0.out _ (ST0.out.v 0 rfl)).mono ?_
  rintro e' u1 ⟨rfl, c1⟩
  have ST1 : Hid (St w [⟨w.heap.size, n, .nil, An, cAn, Ak, cAk⟩, ⟨w.heap.size + 1, m, .nil, Bn, cBn, Bk, cBk⟩] u1) := ST0.out.step c1
  clear c1
  clear x0_0 x0_1 x0_2 x0_3 x0_4 x0_5
  obtain ⟨x1_0, x1_1, x1_2, x1_3, x1_4, x1_5⟩ : _ := ST1.out.six 1 rfl
  go_wp2_with fail
  refine (HI1.out _ (ST1.out.v 1 rfl)).mono ?_
  rintro e' u2 ⟨rfl, c2⟩
  have ST2 : Hid (St w [⟨w.heap.size, n, .nil, An, cAn, Ak, cAk⟩, ⟨w.heap.size + 1, m, .nil, Bn, cBn, Bk, cBk⟩] u2) := ST1.out.step c2
  clear c2
  clear x1_0 x1_1 x1_2 x1_3 x1_4 x1_5
  obtain ⟨x0_0, x0_1, x0_2, x0_3, x0_4, x0_5⟩ : _ := ST2.out.six 0 rfl
  obtain ⟨x1_0, x1_1, x1_2, x1_3, x1_4, x1_5⟩ : _ := ST2.out.six 1 rfl
  go_wp2_with fail
  refine (HC.out _ (ST2.out.v 0 rfl) (ST2.out.v 1 rfl)).mono ?_
  rintro e' u3 ⟨rfl, c3⟩
  have ST3 : Hid (St w [⟨w.heap.size, n, .nil, An, cAn, Ak, cAk⟩, ⟨w.heap.size + 1, m, .nil, Bn, cBn, Bk, cBk⟩] u3) := ST2.out.step c3
  clear c3
  clear x0_0 x0_1 x0_2 x0_3 x0_4 x0_5 x1_0 x1_1 x1_2 x1_3 x1_4 x1_5
  obtain ⟨x0_0, x0_1, x0_2, x0_3, x0_4, x0_5⟩ : _ := ST3.out.six 0 rfl
  obtain ⟨x1_0, x1_1, x1_2, x1_3, x1_4, x1_5⟩ : _ := ST3.out.six 1 rfl
  go_upto_region 5 with (go_at_call 18; refine (HS.out _ (ST3.out.v 0 rfl) (ST3.out.v 1 rfl)).mono ?_; rintro e' u4 ⟨rfl, c4⟩)
  obtain ⟨W4, hW4⟩ : ∃ W4, u4.alloc (.cells #[.int .i64 s.kind, .int .i64 s.int, .int .i64 s.scale, .string (str s.text), .slice none 0 0, .slice none 0 0] 25) = W4 := ⟨_, rfl⟩
  rw [hW4]
  have ST4 : Hid (St w [⟨w.heap.size, n, .nil, An, cAn, Ak, cAk⟩, ⟨w.heap.size + 1, m, .nil, Bn, cBn, Bk, cBk⟩, ⟨u4.heap.size, s, .nil, none, 0, none, 0⟩] W4) := by show St _ _ _; rw [← hW4]; exact (ST3.out.step c4).put2 PS.out
  clear hW4 c4
  clear x0_0 x0_1 x0_2 x0_3 x0_4 x0_5 x1_0 x1_1 x1_2 x1_3 x1_4 x1_5
  rcases HE.out with rfl | rfl
  · have HL2 := Lib.hid (HL.out rfl)
    have HZ : Hid (∀ W, Calls Tryd.prog 19 #[.agg #[.int .i64 s.kind, .int .i64 s.int, .int .i64 s.scale, .string (str s.text), .slice none 0 0, .slice none 0 0], .agg #[.int .i64 3, .int .i64 0, .int .i64 0, .string ⟨#[]⟩, .slice none 0 0, .slice none 0 0]] W (Ret (.tuple #[.int .i64 c, .int .i64 0]) W)) := fun W => by
      have h' := cmp6_any s .nil oneN .nil (numv s) (numv oneN) W (plain_vo PS.out W _) (plain_vo (num_plain oneN_num) W _)
      rw [HL2.out] at h'
      exact h'
    clear HE HL HL2
    obtain ⟨x2_0, x2_1, x2_2, x2_3, x2_4, x2_5⟩ : _ := ST4.out.six2 2 rfl PS.out
    go_wp2_with fail
    refine (HZ.out _).mono ?_
    rintro e' u5 ⟨rfl, c5⟩
    have ST5 : Hid (St w [⟨w.heap.size, n, .nil, An, cAn, Ak, cAk⟩, ⟨w.heap.size + 1, m, .nil, Bn, cBn, Bk, cBk⟩, ⟨u4.heap.size, s, .nil, none, 0, none, 0⟩] u5) := ST4.out.step c5
    clear c5
    clear x2_0 x2_1 x2_2 x2_3 x2_4 x2_5
    have qc : (c == c) = true := by simp
    go_wp2_with fail
    refine (HK.out _ ST5.out.1).mono ?_
    rintro e' u6 ⟨rfl, c6⟩
    have ST6 : Hid (St w [⟨w.heap.size, n, .nil, An, cAn, Ak, cAk⟩, ⟨w.heap.size + 1, m, .nil, Bn, cBn, Bk, cBk⟩, ⟨u4.heap.size, s, .nil, none, 0, none, 0⟩] u6) := ST5.out.step c6
    clear c6
    go_wp2_with fail
    go_ret
    exact ⟨rfl, ST6.out.1⟩
  · clear HE HL
    go_wp2_with fail
    refine (HK.out _ ST4.out.1).mono ?_
    rintro e' u5 ⟨rfl, c5⟩
    have ST5 : Hid (St w [⟨w.heap.size, n, .nil, An, cAn, Ak, cAk⟩, ⟨w.heap.size + 1, m, .nil, Bn, cBn, Bk, cBk⟩, ⟨u4.heap.size, s, .nil, none, 0, none, 0⟩] u5) := ST4.out.step c5
    clear c5
    go_wp2_with fail
    go_ret
    exact ⟨rfl, ST5.out.1⟩
theorem decimalOrder_any (n : Nd) (k : F) (m : Nd) (q : F) (v : Value) (u : Value) (w : World) (hv : Vo w (· < w.heap.size) n k v) (hu : Vo w (· < w.heap.size) m q u) (htab : Lib.TabIs Tryd.prog w "internal/strconv.uint64pow10" .u64 Lib.pow10Tab) :
    Calls Tryd.prog 7 #[v, u] w (Ret (.bool true) w) := by
  cases h1 : numB n k with
  | false => exact decimalOrder_0 n k m q v u w hv hu h1
  | true =>
    cases h2 : numB m q with
    | false => exact decimalOrder_1 n k m q v u w hv hu h1 h2
    | true =>
      exact decimalOrder_c n k m q v u w hv hu htab h1 h2

end Go.Proofs.YtfcbcbpnlnkpcaaDoor

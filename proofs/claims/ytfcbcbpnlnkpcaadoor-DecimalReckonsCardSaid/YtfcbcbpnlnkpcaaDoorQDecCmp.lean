/- decimal.Compare, scrivenerref6.Compare. (Printed by gen/dcmp.py.) -/
import Derived.Test.YtfcbcbpnlnkpcaaDoorQLawp6
import Derived.Test.YtfcbcbpnlnkpcaaDoorQComparep
import Derived.Test.YtfcbcbpnlnkpcaaDoorQROrder
namespace Go.Proofs.YtfcbcbpnlnkpcaaDoor
set_option linter.all false
open Go.RowKit
def cmpR (n : Nd) (k : F) (m : Nd) (q : F) : Int × Int := if (numB n k && numB m q) = true then (cmpV n k m q, 0) else (0, 11)
theorem numB_chk {n : Nd} {k : F} (h : numB n k = true) : chk n k 1 = 0 := by
  unfold numB at h
  simp only [Bool.and_eq_true, beq_iff_eq] at h
  exact h.2
theorem num_cls {n : Nd} (h : isNum n) : cls n.kind = 3 := by
  rcases h.2.2.2 with ⟨e, _⟩ | ⟨e, _⟩ <;> rw [e] <;> rfl
theorem num_nV {n : Nd} (h : isNum n) : nV n.int n.scale = vN n := by
  have := h.scale_le
  unfold nV vN
  congr 2
  omega
theorem cmpV_num {n m : Nd} (hn : isNum n) (hm : isNum m) (k q : F) : cmpV n k m q = cmpI (vN n) (vN m) := by
  unfold cmpV nodeCmp
  rw [num_cls hn, num_cls hm, cmpI_self, if_pos rfl, num_nV hn, num_nV hm]
  rfl

set_option maxRecDepth 100000 in
set_option maxHeartbeats 6400000 in
theorem cmp6_any (n : Nd) (k : F) (m : Nd) (q : F) (v : Value) (u : Value) (w : World) (hv : Vo w (· < w.heap.size) n k v) (hu : Vo w (· < w.heap.size) m q u) :
    Calls Tryd.prog 19 #[v, u] w (Ret (.tuple #[.int .i64 (cmpR n k m q).1, .int .i64 (cmpR n k m q).2]) w) := by
  have hare : Hid (∀ (A : Option Addr) (w : World), Kids w (· < w.heap.size) A (.cons n k (.cons m q .nil)) → Calls Tryd.prog 36 #[.slice A 2 2] w (Ret (.bool (areF (.cons n k (.cons m q .nil)))) w)) := fun A w h => are_any A (.cons n k (.cons m q .nil)) w (by simp [F.len]) h
  have hA : areF (.cons n k (.cons m q .nil)) = (numB n k && numB m q) := by simp [areF]
  rw [hA] at hare
  clear hA
  obtain ⟨An, cAn, Ak, cAk, rfl, hok0, _, _, _, _⟩ := id hv
  obtain ⟨Bn, cBn, Bk, cBk, rfl, hok1, _, _, _, _⟩ := id hu
  obtain ⟨W0, hW0⟩ : ∃ W0, ((w.alloc (.cells #[.int .i64 n.kind, .int .i64 n.int, .int .i64 n.scale, .string (str n.text), .slice An n.names.length cAn, .slice Ak k.len cAk] 25)).alloc (.cells #[.int .i64 m.kind, .int .i64 m.int, .int .i64 m.scale, .string (str m.text), .slice Bn m.names.length cBn, .slice Bk q.len cBk] 25)) = W0 := ⟨_, rfl⟩
  have ST0 : Hid (St w [⟨w.heap.size, n, k, An, cAn, Ak, cAk⟩, ⟨w.heap.size + 1, m, q, Bn, cBn, Bk, cBk⟩] W0) := by
    have := (St.box_new (St.box_new (St.nil w) hv) hu)
    show St _ _ _
    rw [← hW0]
    simpa [ncells, Nat.add_assoc] using this
  unfold ncells
  have HCM : Hid ((numB n k && numB m q) = true → ∀ W, Vo W (· < W.heap.size) n k (.agg #[.int .i64 n.kind, .int .i64 n.int, .int .i64 n.scale, .string (str n.text), .slice An n.names.length cAn, .slice Ak k.len cAk]) → Vo W (· < W.heap.size) m q (.agg #[.int .i64 m.kind, .int .i64 m.int, .int .i64 m.scale, .string (str m.text), .slice Bn m.names.length cBn, .slice Bk q.len cBk]) → Calls Tryd.prog 39 #[.agg #[.int .i64 n.kind, .int .i64 n.int, .int .i64 n.scale, .string (str n.text), .slice An n.names.length cAn, .slice Ak k.len cAk], .agg #[.int .i64 m.kind, .int .i64 m.int, .int .i64 m.scale, .string (str m.text), .slice Bn m.names.length cBn, .slice Bk q.len cBk]] W (Ret (.int .i64 (cmpV n k m q)) W)) := fun hb W h g => by
    rw [Bool.and_eq_true] at hb
    have h' := Compare_any n k m q _ _ W h g
    unfold cmpP at h'
    rw [if_pos (numB_chk hb.1), if_pos (numB_chk hb.2)] at h'
    exact h'
  obtain ⟨V, hV⟩ : ∃ V, (Value.tuple #[.int .i64 (cmpR n k m q).1, .int .i64 (cmpR n k m q).2]) = V := ⟨_, rfl⟩
  rw [hV]
  unfold cmpR at hV
  have HVV := Lib.hid hV
  clear hV
  generalize hR : (numB n k && numB m q) = R at *
  clear hR
  generalize cmpV n k m q = C at *
  clear hv hu hok0 hok1
  go_enter Tryd.func19, Tryd.ntmps19
  go_upto_region 1 with fail
  clear hW0
  obtain ⟨x0_0, x0_1, x0_2, x0_3, x0_4, x0_5⟩ : _ := ST0.out.six 0 rfl
  obtain ⟨x1_0, x1_1, x1_2, x1_3, x1_4, x1_5⟩ : _ := ST0.out.six 1 rfl
  go_wp2_with fail
  have hkd := kids_new (Vo.kc (ST0.out.v 0 rfl) (Vo.kc (ST0.out.v 1 rfl) (show Kc W0 (· < W0.heap.size) F.nil [] from rfl))) (fun b hb => hb) 25
  generalize hWa : W0.alloc (.cells #[.int .i64 n.kind, .int .i64 n.int, .int .i64 n.scale, .string (str n.text), .slice An n.names.length cAn, .slice Ak k.len cAk, .int .i64 m.kind, .int .i64 m.int, .int .i64 m.scale, .string (str m.text), .slice Bn m.names.length cBn, .slice Bk q.len cBk] 25) = Wa
  have ba : Below W0.heap.size W0 Wa := by rw [← hWa]; exact below_ra _ _
  have HKd : Hid (Kids Wa (· < Wa.heap.size) (some ⟨W0.heap.size, 0, none⟩) (.cons n k (.cons m q .nil))) := by show Kids _ _ _ _; rw [← hWa]; simpa [ncells] using hkd
  clear hkd hWa
  clear x0_0 x0_1 x0_2 x0_3 x0_4 x0_5 x1_0 x1_1 x1_2 x1_3 x1_4 x1_5
  refine ((unhide hare) _ _ HKd.out).mono ?_
  rintro e w4 ⟨rfl, b4⟩
  have b4' := bseq ba b4
  have ST1 : Hid (St w [⟨w.heap.size, n, k, An, cAn, Ak, cAk⟩, ⟨w.heap.size + 1, m, q, Bn, cBn, Bk, cBk⟩] w4) := ST0.out.step b4'
  clear HKd ba b4 b4' hare ST0
  rcases R with _ | _
  · have HN : Hid (V = .tuple #[.int .i64 0, .int .i64 11]) := by show _ = _; rw [← HVV.out]; rfl
    clear HVV HCM
    go_wp2_with fail
    refine bodyPost_ret (v := .tuple #[.int .i64 0, .int .i64 11]) (by simp [results, Tryd.results19, go_sem]) rfl ⟨by rw [HN.out], ST1.out.1⟩
  · have HN : Hid (V = .tuple #[.int .i64 C, .int .i64 0]) := by show _ = _; rw [← HVV.out]; rfl
    have HC2 := Lib.hid (HCM.out rfl)
    clear HVV HCM
    obtain ⟨x0_0, x0_1, x0_2, x0_3, x0_4, x0_5⟩ : _ := ST1.out.six 0 rfl
    obtain ⟨x1_0, x1_1, x1_2, x1_3, x1_4, x1_5⟩ : _ := ST1.out.six 1 rfl
    go_wp2_with fail
    refine (HC2.out _ (ST1.out.v 0 rfl) (ST1.out.v 1 rfl)).mono ?_
    rintro e' u2 ⟨rfl, c2⟩
    have ST2 : Hid (St w [⟨w.heap.size, n, k, An, cAn, Ak, cAk⟩, ⟨w.heap.size + 1, m, q, Bn, cBn, Bk, cBk⟩] u2) := ST1.out.step c2
    clear c2
    clear x0_0 x0_1 x0_2 x0_3 x0_4 x0_5 x1_0 x1_1 x1_2 x1_3 x1_4 x1_5
    go_wp2_with fail
    refine bodyPost_ret (v := .tuple #[.int .i64 C, .int .i64 0]) (by simp [results, Tryd.results19, go_sem]) rfl ⟨by rw [HN.out], ST2.out.1⟩
set_option maxRecDepth 100000 in
set_option maxHeartbeats 6400000 in
theorem rcmp6_0 (n : Nd) (k : F) (m : Nd) (q : F) (v : Value) (u : Value) (w : World) (hv : Vo w (· < w.heap.size) n k v) (hu : Vo w (· < w.heap.size) m q u) (h1 : numB n k = false) :
    Calls Tryd.prog 26 #[v, u] w (Ret (.tuple #[.int .i64 0, .int .i64 11]) w) := by
  obtain ⟨An, cAn, Ak, cAk, rfl, hok0, _, _, _, _⟩ := id hv
  obtain ⟨Bn, cBn, Bk, cBk, rfl, hok1, _, _, _, _⟩ := id hu
  obtain ⟨W0, hW0⟩ : ∃ W0, ((w.alloc (.cells #[.int .i64 n.kind, .int .i64 n.int, .int .i64 n.scale, .string (str n.text), .slice An n.names.length cAn, .slice Ak k.len cAk] 25)).alloc (.cells #[.int .i64 m.kind, .int .i64 m.int, .int .i64 m.scale, .string (str m.text), .slice Bn m.names.length cBn, .slice Bk q.len cBk] 25)) = W0 := ⟨_, rfl⟩
  have ST0 : Hid (St w [⟨w.heap.size, n, k, An, cAn, Ak, cAk⟩, ⟨w.heap.size + 1, m, q, Bn, cBn, Bk, cBk⟩] W0) := by
    have := (St.box_new (St.box_new (St.nil w) hv) hu)
    show St _ _ _
    rw [← hW0]
    simpa [ncells, Nat.add_assoc] using this
  unfold ncells
  have HI0 : Hid (∀ W, Vo W (· < W.heap.size) n k (.agg #[.int .i64 n.kind, .int .i64 n.int, .int .i64 n.scale, .string (str n.text), .slice An n.names.length cAn, .slice Ak k.len cAk]) → Calls Tryd.prog 14 #[.agg #[.int .i64 n.kind, .int .i64 n.int, .int .i64 n.scale, .string (str n.text), .slice An n.names.length cAn, .slice Ak k.len cAk]] W (Ret (.bool (numB n k)) W)) := fun W h => is_any n k _ W h
  have HI1 : Hid (∀ W, Vo W (· < W.heap.size) m q (.agg #[.int .i64 m.kind, .int .i64 m.int, .int .i64 m.scale, .string (str m.text), .slice Bn m.names.length cBn, .slice Bk q.len cBk]) → Calls Tryd.prog 14 #[.agg #[.int .i64 m.kind, .int .i64 m.int, .int .i64 m.scale, .string (str m.text), .slice Bn m.names.length cBn, .slice Bk q.len cBk]] W (Ret (.bool (numB m q)) W)) := fun W h => is_any m q _ W h
  rw [h1] at HI0
  clear hv hu h1
  go_enter Tryd.func26, Tryd.ntmps26
  go_upto_region 1 with fail
  clear hW0
  obtain ⟨x0_0, x0_1, x0_2, x0_3, x0_4, x0_5⟩ : _ := ST0.out.six 0 rfl
  go_wp2_with fail
  refine (HI0.out _ (ST0.out.v 0 rfl)).mono ?_
  rintro e' u1 ⟨rfl, c1⟩
  have ST1 : Hid (St w [⟨w.heap.size, n, k, An, cAn, Ak, cAk⟩, ⟨w.heap.size + 1, m, q, Bn, cBn, Bk, cBk⟩] u1) := ST0.out.step c1
  clear c1
  clear x0_0 x0_1 x0_2 x0_3 x0_4 x0_5
  go_wp2_with fail
  refine bodyPost_ret (v := .tuple #[.int .i64 0, .int .i64 11]) (by simp [results, Tryd.results26, go_sem]) rfl ⟨by rfl, ST1.out.1⟩
set_option maxRecDepth 100000 in
set_option maxHeartbeats 6400000 in
theorem rcmp6_1 (n : Nd) (k : F) (m : Nd) (q : F) (v : Value) (u : Value) (w : World) (hv : Vo w (· < w.heap.size) n k v) (hu : Vo w (· < w.heap.size) m q u) (h1 : numB n k = true) (h2 : numB m q = false) :
    Calls Tryd.prog 26 #[v, u] w (Ret (.tuple #[.int .i64 0, .int .i64 11]) w) := by
  obtain ⟨An, cAn, Ak, cAk, rfl, hok0, _, _, _, _⟩ := id hv
  obtain ⟨Bn, cBn, Bk, cBk, rfl, hok1, _, _, _, _⟩ := id hu
  obtain ⟨W0, hW0⟩ : ∃ W0, ((w.alloc (.cells #[.int .i64 n.kind, .int .i64 n.int, .int .i64 n.scale, .string (str n.text), .slice An n.names.length cAn, .slice Ak k.len cAk] 25)).alloc (.cells #[.int .i64 m.kind, .int .i64 m.int, .int .i64 m.scale, .string (str m.text), .slice Bn m.names.length cBn, .slice Bk q.len cBk] 25)) = W0 := ⟨_, rfl⟩
  have ST0 : Hid (St w [⟨w.heap.size, n, k, An, cAn, Ak, cAk⟩, ⟨w.heap.size + 1, m, q, Bn, cBn, Bk, cBk⟩] W0) := by
    have := (St.box_new (St.box_new (St.nil w) hv) hu)
    show St _ _ _
    rw [← hW0]
    simpa [ncells, Nat.add_assoc] using this
  unfold ncells
  have HI0 : Hid (∀ W, Vo W (· < W.heap.size) n k (.agg #[.int .i64 n.kind, .int .i64 n.int, .int .i64 n.scale, .string (str n.text), .slice An n.names.length cAn, .slice Ak k.len cAk]) → Calls Tryd.prog 14 #[.agg #[.int .i64 n.kind, .int .i64 n.int, .int .i64 n.scale, .string (str n.text), .slice An n.names.length cAn, .slice Ak k.len cAk]] W (Ret (.bool (numB n k)) W)) := fun W h => is_any n k _ W h
  have HI1 : Hid (∀ W, Vo W (· < W.heap.size) m q (.agg #[.int .i64 m.kind, .int .i64 m.int, .int .i64 m.scale, .string (str m.text), .slice Bn m.names.length cBn, .slice Bk q.len cBk]) → Calls Tryd.prog 14 #[.agg #[.int .i64 m.kind, .int .i64 m.int, .int .i64 m.scale, .string (str m.text), .slice Bn m.names.length cBn, .slice Bk q.len cBk]] W (Ret (.bool (numB m q)) W)) := fun W h => is_any m q _ W h
  rw [h1] at HI0
  rw [h2] at HI1
  clear hv hu h1 h2
  go_enter Tryd.func26, Tryd.ntmps26
  go_upto_region 1 with fail
  clear hW0
  obtain ⟨x0_0, x0_1, x0_2, x0_3, x0_4, x0_5⟩ : _ := ST0.out.six 0 rfl
  go_wp2_with fail
  refine (HI0.out _ (ST0.out.v 0 rfl)).mono ?_
  rintro e' u1 ⟨rfl, c1⟩
  have ST1 : Hid (St w [⟨w.heap.size, n, k, An, cAn, Ak, cAk⟩, ⟨w.heap.size + 1, m, q, Bn, cBn, Bk, cBk⟩] u1) := ST0.out.step c1
  clear c1
  clear x0_0 x0_1 x0_2 x0_3 x0_4 x0_5
  obtain ⟨x1_0, x1_1, x1_2, x1_3, x1_4, x1_5⟩ : _ := ST1.out.six 1 rfl
  go_wp2_with fail
  refine (HI1.out _ (ST1.out.v 1 rfl)).mono ?_
  rintro e' u2 ⟨rfl, c2⟩
  have ST2 : Hid (St w [⟨w.heap.size, n, k, An, cAn, Ak, cAk⟩, ⟨w.heap.size + 1, m, q, Bn, cBn, Bk, cBk⟩] u2) := ST1.out.step c2
  clear c2
  clear x1_0 x1_1 x1_2 x1_3 x1_4 x1_5
  go_wp2_with fail
  refine bodyPost_ret (v := .tuple #[.int .i64 0, .int .i64 11]) (by simp [results, Tryd.results26, go_sem]) rfl ⟨by rfl, ST2.out.1⟩
set_option maxRecDepth 100000 in
set_option maxHeartbeats 6400000 in
theorem rcmp6_c (n : Nd) (k : F) (m : Nd) (q : F) (v : Value) (u : Value) (w : World) (hv : Vo w (· < w.heap.size) n k v) (hu : Vo w (· < w.heap.size) m q u) (h1 : numB n k = true) (h2 : numB m q = true) :
    Calls Tryd.prog 26 #[v, u] w (Ret (.tuple #[.int .i64 (cmpV n k m q), .int .i64 0]) w) := by
  obtain ⟨An, cAn, Ak, cAk, rfl, hok0, _, _, _, _⟩ := id hv
  obtain ⟨Bn, cBn, Bk, cBk, rfl, hok1, _, _, _, _⟩ := id hu
  obtain ⟨W0, hW0⟩ : ∃ W0, ((w.alloc (.cells #[.int .i64 n.kind, .int .i64 n.int, .int .i64 n.scale, .string (str n.text), .slice An n.names.length cAn, .slice Ak k.len cAk] 25)).alloc (.cells #[.int .i64 m.kind, .int .i64 m.int, .int .i64 m.scale, .string (str m.text), .slice Bn m.names.length cBn, .slice Bk q.len cBk] 25)) = W0 := ⟨_, rfl⟩
  have ST0 : Hid (St w [⟨w.heap.size, n, k, An, cAn, Ak, cAk⟩, ⟨w.heap.size + 1, m, q, Bn, cBn, Bk, cBk⟩] W0) := by
    have := (St.box_new (St.box_new (St.nil w) hv) hu)
    show St _ _ _
    rw [← hW0]
    simpa [ncells, Nat.add_assoc] using this
  unfold ncells
  have HI0 : Hid (∀ W, Vo W (· < W.heap.size) n k (.agg #[.int .i64 n.kind, .int .i64 n.int, .int .i64 n.scale, .string (str n.text), .slice An n.names.length cAn, .slice Ak k.len cAk]) → Calls Tryd.prog 14 #[.agg #[.int .i64 n.kind, .int .i64 n.int, .int .i64 n.scale, .string (str n.text), .slice An n.names.length cAn, .slice Ak k.len cAk]] W (Ret (.bool (numB n k)) W)) := fun W h => is_any n k _ W h
  have HI1 : Hid (∀ W, Vo W (· < W.heap.size) m q (.agg #[.int .i64 m.kind, .int .i64 m.int, .int .i64 m.scale, .string (str m.text), .slice Bn m.names.length cBn, .slice Bk q.len cBk]) → Calls Tryd.prog 14 #[.agg #[.int .i64 m.kind, .int .i64 m.int, .int .i64 m.scale, .string (str m.text), .slice Bn m.names.length cBn, .slice Bk q.len cBk]] W (Ret (.bool (numB m q)) W)) := fun W h => is_any m q _ W h
  have HO : Hid (∀ W, Vo W (· < W.heap.size) n k (.agg #[.int .i64 n.kind, .int .i64 n.int, .int .i64 n.scale, .string (str n.text), .slice An n.names.length cAn, .slice Ak k.len cAk]) → Vo W (· < W.heap.size) m q (.agg #[.int .i64 m.kind, .int .i64 m.int, .int .i64 m.scale, .string (str m.text), .slice Bn m.names.length cBn, .slice Bk q.len cBk]) → Calls Tryd.prog 45 #[.agg #[.int .i64 n.kind, .int .i64 n.int, .int .i64 n.scale, .string (str n.text), .slice An n.names.length cAn, .slice Ak k.len cAk], .agg #[.int .i64 m.kind, .int .i64 m.int, .int .i64 m.scale, .string (str m.text), .slice Bn m.names.length cBn, .slice Bk q.len cBk]] W (Ret (.int .i64 (cmpV n k m q)) W)) := fun W h g => rord_any n k m q 1 _ _ W (numB_chk h1) (numB_chk h2) h g
  rw [h1] at HI0
  rw [h2] at HI1
  clear hv hu h1 h2
  generalize cmpV n k m q = C at *
  go_enter Tryd.func26, Tryd.ntmps26
  go_upto_region 1 with fail
  clear hW0
  obtain ⟨x0_0, x0_1, x0_2, x0_3, x0_4, x0_5⟩ : _ := ST0.out.six 0 rfl
  go_wp2_with fail
  refine (HI0.out _ (ST0.out.v 0 rfl)).mono ?_
  rintro e' u1 ⟨rfl, c1⟩
  have ST1 : Hid (St w [⟨w.heap.size, n, k, An, cAn, Ak, cAk⟩, ⟨w.heap.size + 1, m, q, Bn, cBn, Bk, cBk⟩] u1) := ST0.out.step c1
  clear c1
  clear x0_0 x0_1 x0_2 x0_3 x0_4 x0_5
  obtain ⟨x1_0, x1_1, x1_2, x1_3, x1_4, x1_5⟩ : _ := ST1.out.six 1 rfl
  go_wp2_with fail
  refine (HI1.out _ (ST1.out.v 1 rfl)).mono ?_
  rintro e' u2 ⟨rfl, c2⟩
  have ST2 : Hid (St w [⟨w.heap.size, n, k, An, cAn, Ak, cAk⟩, ⟨w.heap.size + 1, m, q, Bn, cBn, Bk, cBk⟩] u2) := ST1.out.step c2
  clear c2
  clear x1_0 x1_1 x1_2 x1_3 x1_4 x1_5
  obtain ⟨x0_0, x0_1, x0_2, x0_3, x0_4, x0_5⟩ : _ := ST2.out.six 0 rfl
  obtain ⟨x1_0, x1_1, x1_2, x1_3, x1_4, x1_5⟩ : _ := ST2.out.six 1 rfl
  go_wp2_with fail
  refine (HO.out _ (ST2.out.v 0 rfl) (ST2.out.v 1 rfl)).mono ?_
  rintro e' u3 ⟨rfl, c3⟩
  have ST3 : Hid (St w [⟨w.heap.size, n, k, An, cAn, Ak, cAk⟩, ⟨w.heap.size + 1, m, q, Bn, cBn, Bk, cBk⟩] u3) := ST2.out.step c3
  clear c3
  clear x0_0 x0_1 x0_2 x0_3 x0_4 x0_5 x1_0 x1_1 x1_2 x1_3 x1_4 x1_5
  go_wp2_with fail
  refine bodyPost_ret (v := .tuple #[.int .i64 C, .int .i64 0]) (by simp [results, Tryd.results26, go_sem]) rfl ⟨by rfl, ST3.out.1⟩
theorem rcmp6_any (n : Nd) (k : F) (m : Nd) (q : F) (v u : Value) (w : World) (hv : Vo w (· < w.heap.size) n k v) (hu : Vo w (· < w.heap.size) m q u) :
    Calls Tryd.prog 26 #[v, u] w (Ret (.tuple #[.int .i64 (cmpR n k m q).1, .int .i64 (cmpR n k m q).2]) w) := by
  unfold cmpR
  cases h1 : numB n k with
  | false => exact rcmp6_0 n k m q v u w hv hu h1
  | true => cases h2 : numB m q with
    | false => exact rcmp6_1 n k m q v u w hv hu h1 h2
    | true => exact rcmp6_c n k m q v u w hv hu h1 h2
end Go.Proofs.YtfcbcbpnlnkpcaaDoor

/- value.With: where it refuses. (Printed by gen/vwith.py.) -/
import Derived.Test.YtfcbcbpnlnkpcaaQWithS
import Derived.Test.YtfcbcbpnlnkpcaaQCheck
import Derived.Test.YtfcbcbpnlnkpcaaQLate
import Derived.Deep.RegionHeld3
import Derived.Outline
namespace Go.Proofs.Ytfcbcbpnlnkpcaa
set_option linter.all false
open Go.RowKit

set_option maxRecDepth 100000 in
set_option maxHeartbeats 12800000 in
theorem with_1 (n : Nd) (k : F) (m : Nd) (q : F) (v u : Value) (x : List UInt8) (w : World) (hw0 : cost n + wtF k ≤ 2500) (hw1 : cost m + wtF q ≤ 2500) (hx : x.length ≤ 500) (hv : Vo w (· < w.heap.size) n k v) (hu : Vo w (· < w.heap.size) m q u) (h1 : chk n k 1 ≠ 0) :
    Calls Try.prog 21 #[v, .string (str x), u] w (RetW (withV n k x m q) w) := by
  obtain ⟨An, cn, Ak, ck, rfl, hok0, l0, l1, _, _⟩ := id hv
  obtain ⟨Bn, dn, Bk, dk, rfl, hok1, l2, l3, _, _⟩ := id hu
  have HV0 := Lib.hid hv
  have HV1 := Lib.hid hu
  have HOK := Lib.hid (And.intro hok0 (And.intro l0 l1))
  have ST := St.box_new (St.box_new (St.nil w) hv) hu
  clear hv hu hok0 hok1 l0 l1 l2 l3
  unfold ncells at *
  generalize hW1 : (w.alloc (.cells #[.int .i64 n.kind, .int .i64 n.int, .int .i64 n.scale, .string (str n.text), .slice An n.names.length cn, .slice Ak k.len ck] 25)).alloc (.cells #[.int .i64 m.kind, .int .i64 m.int, .int .i64 m.scale, .string (str m.text), .slice Bn m.names.length dn, .slice Bk q.len dk] 25) = W1
  have ST : St w [⟨w.heap.size, n, k, An, cn, Ak, ck⟩, ⟨w.heap.size + 1, m, q, Bn, dn, Bk, dk⟩] W1 := by rw [← hW1]; have := ST; simpa using this
  have hs1 : W1.heap.size = w.heap.size + 2 := by rw [← hW1]; simp
  generalize hW2 : W1.alloc (.cells #[.int .i64 0, .int .i64 0, .int .i64 0, .string ⟨#[]⟩, .slice none 0 0, .slice none 0 0] 25) = W2
  have b12 : Below W1.heap.size W1 W2 := by rw [← hW2]; exact (Below.refl _ _).alloc (Nat.le_refl _) _
  have B_W : Hid (Below w.heap.size w W2) := (ST.step b12).1
  have V_W : Hid (Blk W2 w.heap.size #[.int .i64 n.kind, .int .i64 n.int, .int .i64 n.scale, .string (str n.text), .slice An n.names.length cn, .slice Ak k.len ck] 25) := ((ST.step b12).box 0 rfl).1
  have X_W : Hid (Blk W2 (w.heap.size + 1) #[.int .i64 m.kind, .int .i64 m.int, .int .i64 m.scale, .string (str m.text), .slice Bn m.names.length dn, .slice Bk q.len dk] 25) := ((ST.step b12).box 1 rfl).1
  have R_W : Hid (Blk W2 (w.heap.size + 2) #[.int .i64 0, .int .i64 0, .int .i64 0, .string ⟨#[]⟩, .slice none 0 0, .slice none 0 0] 25) := by show Blk _ _ _ _; rw [← hs1, ← hW2]; exact Blk.new _ _ _
  have hs1 := Lib.hid hs1
  clear ST b12

  have HRES : Hid (withV n k x m q = (chk n k 1, zNd, .nil)) := by show _ = _; unfold withV; rw [if_pos h1]
  obtain ⟨C, hC⟩ : ∃ C, chk n k 1 = C := ⟨_, rfl⟩
  rw [hC] at HRES h1
  have HC1 : Hid (∀ W, Vo W (· < W.heap.size) n k (.agg #[.int .i64 n.kind, .int .i64 n.int, .int .i64 n.scale, .string (str n.text), .slice An n.names.length cn, .slice Ak k.len ck]) → Calls Try.prog 11 #[.agg #[.int .i64 n.kind, .int .i64 n.int, .int .i64 n.scale, .string (str n.text), .slice An n.names.length cn, .slice Ak k.len ck]] W (Ret (.int .i64 (C : Int)) W)) := fun W h => by have := Check_any n k _ W h; rw [hC] at this; exact this
  have q1 : ((C : Int) == 0) = false := by rw [beq_eq_false_iff_ne]; omega
  clear hC h1
  go_enter Try.func21, Try.ntmps21
  have x0 : W2.cell? ⟨w.heap.size, 0, none⟩ = some (.int .i64 n.kind) := V_W.out.cell 0
  have x1 : W2.cell? ⟨w.heap.size, 1, none⟩ = some (.int .i64 n.int) := V_W.out.cell 1
  have x2 : W2.cell? ⟨w.heap.size, 2, none⟩ = some (.int .i64 n.scale) := V_W.out.cell 2
  have x3 : W2.cell? ⟨w.heap.size, 3, none⟩ = some (.string (str n.text)) := V_W.out.cell 3
  have x4 : W2.cell? ⟨w.heap.size, 4, none⟩ = some (.slice An n.names.length cn) := V_W.out.cell 4
  have x5 : W2.cell? ⟨w.heap.size, 5, none⟩ = some (.slice Ak k.len ck) := V_W.out.cell 5
  go_wp2_with fail
  refine ((unhide HC1) _ (HV0.out.upto B_W.out)).mono ?_
  rintro e w3 ⟨rfl, b3⟩
  clear hW1 hW2
  clear x0 x1 x2 x3 x4 x5
  have B_w3 : Hid (Below w.heap.size w w3) := B_W.out.trans (b3.mono B_W.out.size)
  have V_w3 := Lib.hid (V_W.out.below b3 V_W.out.lt)
  have X_w3 := Lib.hid (X_W.out.below b3 X_W.out.lt)
  have R_w3 := Lib.hid (R_W.out.below b3 R_W.out.lt)
  clear B_W V_W X_W R_W b3
  have r0 : w3.cell? ⟨(w.heap.size + 2), 0, none⟩ = some (.int .i64 0) := R_w3.out.cell 0
  have r1 : w3.cell? ⟨(w.heap.size + 2), 1, none⟩ = some (.int .i64 0) := R_w3.out.cell 1
  have r2 : w3.cell? ⟨(w.heap.size + 2), 2, none⟩ = some (.int .i64 0) := R_w3.out.cell 2
  have r3 : w3.cell? ⟨(w.heap.size + 2), 3, none⟩ = some (.string ⟨#[]⟩) := R_w3.out.cell 3
  have r4 : w3.cell? ⟨(w.heap.size + 2), 4, none⟩ = some (.slice none 0 0) := R_w3.out.cell 4
  have r5 : w3.cell? ⟨(w.heap.size + 2), 5, none⟩ = some (.slice none 0 0) := R_w3.out.cell 5
  have r_0 := R_w3.out.free 0
  have r_1 := R_w3.out.free 1
  have r_2 := R_w3.out.free 2
  have r_3 := R_w3.out.free 3
  have r_4 := R_w3.out.free 4
  have r_5 := R_w3.out.free 5
  go_wp2_with fail
  refine bodyPost_ret (results_vb Try.results21 rfl rfl (Blk.put6 R_w3.out)) rfl ?_
  rw [HRES.out]
  exact ⟨_, 1, rfl, zero_vo _ _, blank_dp _ _ 0 0, below_six B_w3.out (by omega)⟩
set_option maxRecDepth 100000 in
set_option maxHeartbeats 12800000 in
theorem with_2 (n : Nd) (k : F) (m : Nd) (q : F) (v u : Value) (x : List UInt8) (w : World) (hw0 : cost n + wtF k ≤ 2500) (hw1 : cost m + wtF q ≤ 2500) (hx : x.length ≤ 500) (hv : Vo w (· < w.heap.size) n k v) (hu : Vo w (· < w.heap.size) m q u) (h1 : chk n k 1 = 0) (h9 : n.kind ≠ 9) :
    Calls Try.prog 21 #[v, .string (str x), u] w (RetW (withV n k x m q) w) := by
  obtain ⟨An, cn, Ak, ck, rfl, hok0, l0, l1, _, _⟩ := id hv
  obtain ⟨Bn, dn, Bk, dk, rfl, hok1, l2, l3, _, _⟩ := id hu
  have HV0 := Lib.hid hv
  have HV1 := Lib.hid hu
  have HOK := Lib.hid (And.intro hok0 (And.intro l0 l1))
  have ST := St.box_new (St.box_new (St.nil w) hv) hu
  clear hv hu hok0 hok1 l0 l1 l2 l3
  unfold ncells at *
  generalize hW1 : (w.alloc (.cells #[.int .i64 n.kind, .int .i64 n.int, .int .i64 n.scale, .string (str n.text), .slice An n.names.length cn, .slice Ak k.len ck] 25)).alloc (.cells #[.int .i64 m.kind, .int .i64 m.int, .int .i64 m.scale, .string (str m.text), .slice Bn m.names.length dn, .slice Bk q.len dk] 25) = W1
  have ST : St w [⟨w.heap.size, n, k, An, cn, Ak, ck⟩, ⟨w.heap.size + 1, m, q, Bn, dn, Bk, dk⟩] W1 := by rw [← hW1]; have := ST; simpa using this
  have hs1 : W1.heap.size = w.heap.size + 2 := by rw [← hW1]; simp
  generalize hW2 : W1.alloc (.cells #[.int .i64 0, .int .i64 0, .int .i64 0, .string ⟨#[]⟩, .slice none 0 0, .slice none 0 0] 25) = W2
  have b12 : Below W1.heap.size W1 W2 := by rw [← hW2]; exact (Below.refl _ _).alloc (Nat.le_refl _) _
  have B_W : Hid (Below w.heap.size w W2) := (ST.step b12).1
  have V_W : Hid (Blk W2 w.heap.size #[.int .i64 n.kind, .int .i64 n.int, .int .i64 n.scale, .string (str n.text), .slice An n.names.length cn, .slice Ak k.len ck] 25) := ((ST.step b12).box 0 rfl).1
  have X_W : Hid (Blk W2 (w.heap.size + 1) #[.int .i64 m.kind, .int .i64 m.int, .int .i64 m.scale, .string (str m.text), .slice Bn m.names.length dn, .slice Bk q.len dk] 25) := ((ST.step b12).box 1 rfl).1
  have R_W : Hid (Blk W2 (w.heap.size + 2) #[.int .i64 0, .int .i64 0, .int .i64 0, .string ⟨#[]⟩, .slice none 0 0, .slice none 0 0] 25) := by show Blk _ _ _ _; rw [← hs1, ← hW2]; exact Blk.new _ _ _
  have hs1 := Lib.hid hs1
  clear ST b12

  have HRES : Hid (withV n k x m q = (11, zNd, .nil)) := by show _ = _; unfold withV; rw [if_neg (by omega), if_pos h9]
  have HC1 : Hid (∀ W, Vo W (· < W.heap.size) n k (.agg #[.int .i64 n.kind, .int .i64 n.int, .int .i64 n.scale, .string (str n.text), .slice An n.names.length cn, .slice Ak k.len ck]) → Calls Try.prog 11 #[.agg #[.int .i64 n.kind, .int .i64 n.int, .int .i64 n.scale, .string (str n.text), .slice An n.names.length cn, .slice Ak k.len ck]] W (Ret (.int .i64 0) W)) := fun W h => by have := Check_any n k _ W h; rw [h1] at this; exact this
  have q9 : (n.kind == 9) = false := by rw [beq_eq_false_iff_ne]; exact h9
  clear h1 h9
  go_enter Try.func21, Try.ntmps21
  have x0 : W2.cell? ⟨w.heap.size, 0, none⟩ = some (.int .i64 n.kind) := V_W.out.cell 0
  have x1 : W2.cell? ⟨w.heap.size, 1, none⟩ = some (.int .i64 n.int) := V_W.out.cell 1
  have x2 : W2.cell? ⟨w.heap.size, 2, none⟩ = some (.int .i64 n.scale) := V_W.out.cell 2
  have x3 : W2.cell? ⟨w.heap.size, 3, none⟩ = some (.string (str n.text)) := V_W.out.cell 3
  have x4 : W2.cell? ⟨w.heap.size, 4, none⟩ = some (.slice An n.names.length cn) := V_W.out.cell 4
  have x5 : W2.cell? ⟨w.heap.size, 5, none⟩ = some (.slice Ak k.len ck) := V_W.out.cell 5
  go_wp2_with fail
  refine ((unhide HC1) _ (HV0.out.upto B_W.out)).mono ?_
  rintro e w3 ⟨rfl, b3⟩
  clear hW1 hW2
  clear x0 x1 x2 x3 x4 x5
  have B_w3 : Hid (Below w.heap.size w w3) := B_W.out.trans (b3.mono B_W.out.size)
  have V_w3 := Lib.hid (V_W.out.below b3 V_W.out.lt)
  have X_w3 := Lib.hid (X_W.out.below b3 X_W.out.lt)
  have R_w3 := Lib.hid (R_W.out.below b3 R_W.out.lt)
  clear B_W V_W X_W R_W b3
  have x0 : w3.cell? ⟨w.heap.size, 0, none⟩ = some (.int .i64 n.kind) := V_w3.out.cell 0
  have r0 : w3.cell? ⟨(w.heap.size + 2), 0, none⟩ = some (.int .i64 0) := R_w3.out.cell 0
  have r1 : w3.cell? ⟨(w.heap.size + 2), 1, none⟩ = some (.int .i64 0) := R_w3.out.cell 1
  have r2 : w3.cell? ⟨(w.heap.size + 2), 2, none⟩ = some (.int .i64 0) := R_w3.out.cell 2
  have r3 : w3.cell? ⟨(w.heap.size + 2), 3, none⟩ = some (.string ⟨#[]⟩) := R_w3.out.cell 3
  have r4 : w3.cell? ⟨(w.heap.size + 2), 4, none⟩ = some (.slice none 0 0) := R_w3.out.cell 4
  have r5 : w3.cell? ⟨(w.heap.size + 2), 5, none⟩ = some (.slice none 0 0) := R_w3.out.cell 5
  have r_0 := R_w3.out.free 0
  have r_1 := R_w3.out.free 1
  have r_2 := R_w3.out.free 2
  have r_3 := R_w3.out.free 3
  have r_4 := R_w3.out.free 4
  have r_5 := R_w3.out.free 5
  go_wp2_with fail
  refine bodyPost_ret (results_vb Try.results21 rfl rfl (Blk.put6 R_w3.out)) rfl ?_
  rw [HRES.out]
  exact ⟨_, 1, rfl, zero_vo _ _, blank_dp _ _ 0 0, below_six B_w3.out (by omega)⟩
set_option maxRecDepth 100000 in
set_option maxHeartbeats 12800000 in
theorem with_3 (n : Nd) (k : F) (m : Nd) (q : F) (v u : Value) (x : List UInt8) (w : World) (hw0 : cost n + wtF k ≤ 2500) (hw1 : cost m + wtF q ≤ 2500) (hx : x.length ≤ 500) (hv : Vo w (· < w.heap.size) n k v) (hu : Vo w (· < w.heap.size) m q u) (h1 : chk n k 1 = 0) (h9 : n.kind = 9) (h3 : chk m q 1 ≠ 0) :
    Calls Try.prog 21 #[v, .string (str x), u] w (RetW (withV n k x m q) w) := by
  obtain ⟨An, cn, Ak, ck, rfl, hok0, l0, l1, _, _⟩ := id hv
  obtain ⟨Bn, dn, Bk, dk, rfl, hok1, l2, l3, _, _⟩ := id hu
  have HV0 := Lib.hid hv
  have HV1 := Lib.hid hu
  have HOK := Lib.hid (And.intro hok0 (And.intro l0 l1))
  have ST := St.box_new (St.box_new (St.nil w) hv) hu
  clear hv hu hok0 hok1 l0 l1 l2 l3
  unfold ncells at *
  generalize hW1 : (w.alloc (.cells #[.int .i64 n.kind, .int .i64 n.int, .int .i64 n.scale, .string (str n.text), .slice An n.names.length cn, .slice Ak k.len ck] 25)).alloc (.cells #[.int .i64 m.kind, .int .i64 m.int, .int .i64 m.scale, .string (str m.text), .slice Bn m.names.length dn, .slice Bk q.len dk] 25) = W1
  have ST : St w [⟨w.heap.size, n, k, An, cn, Ak, ck⟩, ⟨w.heap.size + 1, m, q, Bn, dn, Bk, dk⟩] W1 := by rw [← hW1]; have := ST; simpa using this
  have hs1 : W1.heap.size = w.heap.size + 2 := by rw [← hW1]; simp
  generalize hW2 : W1.alloc (.cells #[.int .i64 0, .int .i64 0, .int .i64 0, .string ⟨#[]⟩, .slice none 0 0, .slice none 0 0] 25) = W2
  have b12 : Below W1.heap.size W1 W2 := by rw [← hW2]; exact (Below.refl _ _).alloc (Nat.le_refl _) _
  have B_W : Hid (Below w.heap.size w W2) := (ST.step b12).1
  have V_W : Hid (Blk W2 w.heap.size #[.int .i64 n.kind, .int .i64 n.int, .int .i64 n.scale, .string (str n.text), .slice An n.names.length cn, .slice Ak k.len ck] 25) := ((ST.step b12).box 0 rfl).1
  have X_W : Hid (Blk W2 (w.heap.size + 1) #[.int .i64 m.kind, .int .i64 m.int, .int .i64 m.scale, .string (str m.text), .slice Bn m.names.length dn, .slice Bk q.len dk] 25) := ((ST.step b12).box 1 rfl).1
  have R_W : Hid (Blk W2 (w.heap.size + 2) #[.int .i64 0, .int .i64 0, .int .i64 0, .string ⟨#[]⟩, .slice none 0 0, .slice none 0 0] 25) := by show Blk _ _ _ _; rw [← hs1, ← hW2]; exact Blk.new _ _ _
  have hs1 := Lib.hid hs1
  clear ST b12

  have HRES : Hid (withV n k x m q = (chk m q 1, zNd, .nil)) := by show _ = _; unfold withV; rw [if_neg (by omega), if_neg (by omega), if_pos h3]
  obtain ⟨C, hC⟩ : ∃ C, chk m q 1 = C := ⟨_, rfl⟩
  rw [hC] at HRES h3
  have HC1 : Hid (∀ W, Vo W (· < W.heap.size) n k (.agg #[.int .i64 n.kind, .int .i64 n.int, .int .i64 n.scale, .string (str n.text), .slice An n.names.length cn, .slice Ak k.len ck]) → Calls Try.prog 11 #[.agg #[.int .i64 n.kind, .int .i64 n.int, .int .i64 n.scale, .string (str n.text), .slice An n.names.length cn, .slice Ak k.len ck]] W (Ret (.int .i64 0) W)) := fun W h => by have := Check_any n k _ W h; rw [h1] at this; exact this
  have HC2 : Hid (∀ W, Vo W (· < W.heap.size) m q (.agg #[.int .i64 m.kind, .int .i64 m.int, .int .i64 m.scale, .string (str m.text), .slice Bn m.names.length dn, .slice Bk q.len dk]) → Calls Try.prog 11 #[.agg #[.int .i64 m.kind, .int .i64 m.int, .int .i64 m.scale, .string (str m.text), .slice Bn m.names.length dn, .slice Bk q.len dk]] W (Ret (.int .i64 (C : Int)) W)) := fun W h => by have := Check_any m q _ W h; rw [hC] at this; exact this
  have q1 : ((C : Int) == 0) = false := by rw [beq_eq_false_iff_ne]; omega
  have H9 := Lib.hid h9
  clear hC h1 h3 h9
  go_enter Try.func21, Try.ntmps21
  have x0 : W2.cell? ⟨w.heap.size, 0, none⟩ = some (.int .i64 n.kind) := V_W.out.cell 0
  have x1 : W2.cell? ⟨w.heap.size, 1, none⟩ = some (.int .i64 n.int) := V_W.out.cell 1
  have x2 : W2.cell? ⟨w.heap.size, 2, none⟩ = some (.int .i64 n.scale) := V_W.out.cell 2
  have x3 : W2.cell? ⟨w.heap.size, 3, none⟩ = some (.string (str n.text)) := V_W.out.cell 3
  have x4 : W2.cell? ⟨w.heap.size, 4, none⟩ = some (.slice An n.names.length cn) := V_W.out.cell 4
  have x5 : W2.cell? ⟨w.heap.size, 5, none⟩ = some (.slice Ak k.len ck) := V_W.out.cell 5
  go_wp2_with fail
  refine ((unhide HC1) _ (HV0.out.upto B_W.out)).mono ?_
  rintro e w3 ⟨rfl, b3⟩
  clear hW1 hW2
  clear x0 x1 x2 x3 x4 x5
  have B_w3 : Hid (Below w.heap.size w w3) := B_W.out.trans (b3.mono B_W.out.size)
  have V_w3 := Lib.hid (V_W.out.below b3 V_W.out.lt)
  have X_w3 := Lib.hid (X_W.out.below b3 X_W.out.lt)
  have R_w3 := Lib.hid (R_W.out.below b3 R_W.out.lt)
  clear B_W V_W X_W R_W b3
  have x0 : w3.cell? ⟨w.heap.size, 0, none⟩ = some (.int .i64 9) := by rw [← H9.out]; exact V_w3.out.cell 0
  have y0 : w3.cell? ⟨(w.heap.size + 1), 0, none⟩ = some (.int .i64 m.kind) := X_w3.out.cell 0
  have y1 : w3.cell? ⟨(w.heap.size + 1), 1, none⟩ = some (.int .i64 m.int) := X_w3.out.cell 1
  have y2 : w3.cell? ⟨(w.heap.size + 1), 2, none⟩ = some (.int .i64 m.scale) := X_w3.out.cell 2
  have y3 : w3.cell? ⟨(w.heap.size + 1), 3, none⟩ = some (.string (str m.text)) := X_w3.out.cell 3
  have y4 : w3.cell? ⟨(w.heap.size + 1), 4, none⟩ = some (.slice Bn m.names.length dn) := X_w3.out.cell 4
  have y5 : w3.cell? ⟨(w.heap.size + 1), 5, none⟩ = some (.slice Bk q.len dk) := X_w3.out.cell 5
  go_wp2_with fail
  refine ((unhide HC2) _ (HV1.out.upto B_w3.out)).mono ?_
  rintro e w4 ⟨rfl, b4⟩
  clear x0
  clear y0 y1 y2 y3 y4 y5
  have B_w4 : Hid (Below w.heap.size w w4) := B_w3.out.trans (b4.mono B_w3.out.size)
  have V_w4 := Lib.hid (V_w3.out.below b4 V_w3.out.lt)
  have X_w4 := Lib.hid (X_w3.out.below b4 X_w3.out.lt)
  have R_w4 := Lib.hid (R_w3.out.below b4 R_w3.out.lt)
  clear B_w3 V_w3 X_w3 R_w3 b4
  have r0 : w4.cell? ⟨(w.heap.size + 2), 0, none⟩ = some (.int .i64 0) := R_w4.out.cell 0
  have r1 : w4.cell? ⟨(w.heap.size + 2), 1, none⟩ = some (.int .i64 0) := R_w4.out.cell 1
  have r2 : w4.cell? ⟨(w.heap.size + 2), 2, none⟩ = some (.int .i64 0) := R_w4.out.cell 2
  have r3 : w4.cell? ⟨(w.heap.size + 2), 3, none⟩ = some (.string ⟨#[]⟩) := R_w4.out.cell 3
  have r4 : w4.cell? ⟨(w.heap.size + 2), 4, none⟩ = some (.slice none 0 0) := R_w4.out.cell 4
  have r5 : w4.cell? ⟨(w.heap.size + 2), 5, none⟩ = some (.slice none 0 0) := R_w4.out.cell 5
  have r_0 := R_w4.out.free 0
  have r_1 := R_w4.out.free 1
  have r_2 := R_w4.out.free 2
  have r_3 := R_w4.out.free 3
  have r_4 := R_w4.out.free 4
  have r_5 := R_w4.out.free 5
  go_wp2_with fail
  refine bodyPost_ret (results_vb Try.results21 rfl rfl (Blk.put6 R_w4.out)) rfl ?_
  rw [HRES.out]
  exact ⟨_, 1, rfl, zero_vo _ _, blank_dp _ _ 0 0, below_six B_w4.out (by omega)⟩
end Go.Proofs.Ytfcbcbpnlnkpcaa

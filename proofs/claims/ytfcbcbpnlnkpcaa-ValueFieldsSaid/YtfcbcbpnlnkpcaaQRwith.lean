/- scrivenerref5.With. (Printed by gen/vrwith.py.) -/
import Derived.Test.YtfcbcbpnlnkpcaaQRlay
import Derived.Test.YtfcbcbpnlnkpcaaQRcheck
import Derived.Test.YtfcbcbpnlnkpcaaQLate
import Derived.Deep.RegionHeld3
import Derived.Outline
namespace Go.Proofs.Ytfcbcbpnlnkpcaa
set_option linter.all false
open Go.RowKit
/-- Behind scrivenerref5.With. -/
def RetR (r : Nat × Nd × F) (w : World) (e : Ending) (w' : World) : Prop := ∃ v, e = .returned (.tuple #[v, .int .i64 (r.1 : Int)]) ∧ Vo w' (· < w'.heap.size) r.2.1 r.2.2 v ∧ Below w.heap.size w w'
def With10 (w : World) (n : Nd) (k : F) (s : Value) (wx : World) : Prop :=
  ∃ (g : Nat) (An : Option Addr) (cn : Nat) (Ak : Option Addr) (ck : Nat), s = .pointer (some ⟨g, 0, none⟩) ∧ w.heap.size + 2 < g ∧ Below w.heap.size w wx ∧ Blk wx g (ncells n An cn Ak k.len ck).toArray 25 ∧ Blk wx (w.heap.size + 2) zero6 25 ∧
    Vo wx (fun i => i < wx.heap.size ∧ w.heap.size + 3 ≤ i) n k (.agg (ncells n An cn Ak k.len ck).toArray)
theorem rlay_any (n : Nd) (k : F) (m : Nd) (q : F) (v u : Value) (x : List UInt8) (w : World) (hx : x.length ≤ 500) (S : Nat → Prop) (hS : ∀ b, S b → b < w.heap.size) (hv : Vo w S n k v) (hu : Vo w S m q u) (hnl : n.names.length = k.len) (hkl : k.len ≤ 200) :
    Calls Try.prog 37 #[v, .string (str x), u] w (RetLay S (layN n x) (layK n k x m q) w) := by
  by_cases hh : hitB x n.names = 1
  · exact rlay_hit n k m q v u x w hx S hS hv hu hnl hkl hh
  · have h0 : hitB x n.names = 0 := by have := (hitB_le x n.names).2; omega
    rcases Nat.lt_or_ge (cntB x n.names) n.names.length with h | h
    · exact rlay_in n k m q v u x w hx S hS hv hu hnl hkl h0 h
    · exact rlay_end n k m q v u x w hx S hS hv hu hnl hkl h0 (by have := cntB_le x n.names; omega)
theorem rzero_vo (w : World) (S : Nat → Prop) : Vo w S zNd .nil (.agg #[.int .i64 0, .int .i64 0, .int .i64 0, .string ⟨#[]⟩, .slice none 0 0, .slice none 0 0]) := zero_vo w S

set_option maxRecDepth 100000 in
set_option maxHeartbeats 12800000 in
theorem rwith_1 (n : Nd) (k : F) (m : Nd) (q : F) (v u : Value) (x : List UInt8) (w : World) (hw0 : cost n + wtF k ≤ 2500) (hw1 : cost m + wtF q ≤ 2500) (hx : x.length ≤ 500) (hv : Vo w (· < w.heap.size) n k v) (hu : Vo w (· < w.heap.size) m q u) (h1 : chk n k 1 ≠ 0) :
    Calls Try.prog 22 #[v, .string (str x), u] w (RetR (withV n k x m q) w) := by
  obtain ⟨An, cn, Ak, ck, rfl, hok0, l0, l1, _, _⟩ := id hv
  obtain ⟨Bn, dn, Bk, dk, rfl, hok1, l2, l3, _, _⟩ := id hu
  have HV0 := Lib.hid hv
  have HV1 := Lib.hid hu
  have HOK := Lib.hid (And.intro hok0 (And.intro l0 l1))
  have ST := St.box_new (St.box_new (St.nil w) hv) hu
  clear hv hu hok0 hok1 l0 l1 l2 l3
  unfold ncells at *
  generalize hW1 : (w.alloc (.cells #[.int .i64 n.kind, .int .i64 n.int, .int .i64 n.scale, .string (str n.text), .slice An n.names.length cn, .slice Ak k.len ck] 25)).alloc (.cells #[.int .i64 m.kind, .int .i64 m.int, .int .i64 m.scale, .string (str m.text), .slice Bn m.names.length dn, .slice Bk q.len dk] 25) = W1
  have ST : St w [⟨w.heap.size, n, k, An, cn, Ak, ck⟩, ⟨w.heap.size + 1, m, q, Bn, dn, Bk, dk⟩] W1 := by rw [← hW1]; have := ST; simpa using this
  have hs1 : W1.heap.size = w.heap.size + 2 := by rw [← hW1]; simp
  generalize hW2 : W1.alloc (.cells #[.int .i64 0, .int .i64 0, .int .i64 0, .string ⟨#[]⟩, .slice none 0 0, .slice none 0 0] 25) = W2
  have b12 : Below W1.heap.size W1 W2 := by rw [← hW2]; exact (Below.refl _ _).alloc (Nat.le_refl _) _
  have B_W : Hid (Below w.heap.size w W2) := (ST.step b12).1
  have V_W : Hid (Blk W2 w.heap.size #[.int .i64 n.kind, .int .i64 n.int, .int .i64 n.scale, .string (str n.text), .slice An n.names.length cn, .slice Ak k.len ck] 25) := ((ST.step b12).box 0 rfl).1
  have X_W : Hid (Blk W2 (w.heap.size + 1) #[.int .i64 m.kind, .int .i64 m.int, .int .i64 m.scale, .string (str m.text), .slice Bn m.names.length dn, .slice Bk q.len dk] 25) := ((ST.step b12).box 1 rfl).1
  have R_W : Hid (Blk W2 (w.heap.size + 2) #[.int .i64 0, .int .i64 0, .int .i64 0, .string ⟨#[]⟩, .slice none 0 0, .slice none 0 0] 25) := by show Blk _ _ _ _; rw [← hs1, ← hW2]; exact Blk.new _ _ _
  have hs1 := Lib.hid hs1
  clear ST b12

  have HRES : Hid (withV n k x m q = (chk n k 1, zNd, .nil)) := by show _ = _; unfold withV; rw [if_pos h1]
  obtain ⟨C, hC⟩ : ∃ C, chk n k 1 = C := ⟨_, rfl⟩
  rw [hC] at HRES h1
  have HC1 : Hid (∀ W, Vo W (· < W.heap.size) n k (.agg #[.int .i64 n.kind, .int .i64 n.int, .int .i64 n.scale, .string (str n.text), .slice An n.names.length cn, .slice Ak k.len ck]) → Calls Try.prog 12 #[.agg #[.int .i64 n.kind, .int .i64 n.int, .int .i64 n.scale, .string (str n.text), .slice An n.names.length cn, .slice Ak k.len ck]] W (Ret (.int .i64 (C : Int)) W)) := fun W h => by have := RCheck_any n k _ W h; rw [hC] at this; exact this
  have q1 : ((C : Int) == 0) = false := by rw [beq_eq_false_iff_ne]; omega
  clear hC h1
  go_enter Try.func22, Try.ntmps22
  have x0 : W2.cell? ⟨w.heap.size, 0, none⟩ = some (.int .i64 n.kind) := V_W.out.cell 0
  have x1 : W2.cell? ⟨w.heap.size, 1, none⟩ = some (.int .i64 n.int) := V_W.out.cell 1
  have x2 : W2.cell? ⟨w.heap.size, 2, none⟩ = some (.int .i64 n.scale) := V_W.out.cell 2
  have x3 : W2.cell? ⟨w.heap.size, 3, none⟩ = some (.string (str n.text)) := V_W.out.cell 3
  have x4 : W2.cell? ⟨w.heap.size, 4, none⟩ = some (.slice An n.names.length cn) := V_W.out.cell 4
  have x5 : W2.cell? ⟨w.heap.size, 5, none⟩ = some (.slice Ak k.len ck) := V_W.out.cell 5
  go_wp2_with fail
  refine ((unhide HC1) _ (HV0.out.upto B_W.out)).mono ?_
  rintro e w3 ⟨rfl, b3⟩
  clear hW1 hW2
  clear x0 x1 x2 x3 x4 x5
  have B_w3 : Hid (Below w.heap.size w w3) := B_W.out.trans (b3.mono B_W.out.size)
  have V_w3 := Lib.hid (V_W.out.below b3 V_W.out.lt)
  have X_w3 := Lib.hid (X_W.out.below b3 X_W.out.lt)
  have R_w3 := Lib.hid (R_W.out.below b3 R_W.out.lt)
  clear B_W V_W X_W R_W b3
  have r0 : w3.cell? ⟨(w.heap.size + 2), 0, none⟩ = some (.int .i64 0) := R_w3.out.cell 0
  have r1 : w3.cell? ⟨(w.heap.size + 2), 1, none⟩ = some (.int .i64 0) := R_w3.out.cell 1
  have r2 : w3.cell? ⟨(w.heap.size + 2), 2, none⟩ = some (.int .i64 0) := R_w3.out.cell 2
  have r3 : w3.cell? ⟨(w.heap.size + 2), 3, none⟩ = some (.string ⟨#[]⟩) := R_w3.out.cell 3
  have r4 : w3.cell? ⟨(w.heap.size + 2), 4, none⟩ = some (.slice none 0 0) := R_w3.out.cell 4
  have r5 : w3.cell? ⟨(w.heap.size + 2), 5, none⟩ = some (.slice none 0 0) := R_w3.out.cell 5
  have r_0 := R_w3.out.free 0
  have r_1 := R_w3.out.free 1
  have r_2 := R_w3.out.free 2
  have r_3 := R_w3.out.free 3
  have r_4 := R_w3.out.free 4
  have r_5 := R_w3.out.free 5
  go_wp2_with fail
  refine bodyPost_ret (results_vb Try.results22 rfl rfl (Blk.put6 R_w3.out)) rfl ?_
  rw [HRES.out]
  exact ⟨_, rfl, rzero_vo _ _, below_six B_w3.out (by omega)⟩
set_option maxRecDepth 100000 in
set_option maxHeartbeats 12800000 in
theorem rwith_2 (n : Nd) (k : F) (m : Nd) (q : F) (v u : Value) (x : List UInt8) (w : World) (hw0 : cost n + wtF k ≤ 2500) (hw1 : cost m + wtF q ≤ 2500) (hx : x.length ≤ 500) (hv : Vo w (· < w.heap.size) n k v) (hu : Vo w (· < w.heap.size) m q u) (h1 : chk n k 1 = 0) (h9 : n.kind ≠ 9) :
    Calls Try.prog 22 #[v, .string (str x), u] w (RetR (withV n k x m q) w) := by
  obtain ⟨An, cn, Ak, ck, rfl, hok0, l0, l1, _, _⟩ := id hv
  obtain ⟨Bn, dn, Bk, dk, rfl, hok1, l2, l3, _, _⟩ := id hu
  have HV0 := Lib.hid hv
  have HV1 := Lib.hid hu
  have HOK := Lib.hid (And.intro hok0 (And.intro l0 l1))
  have ST := St.box_new (St.box_new (St.nil w) hv) hu
  clear hv hu hok0 hok1 l0 l1 l2 l3
  unfold ncells at *
  generalize hW1 : (w.alloc (.cells #[.int .i64 n.kind, .int .i64 n.int, .int .i64 n.scale, .string (str n.text), .slice An n.names.length cn, .slice Ak k.len ck] 25)).alloc (.cells #[.int .i64 m.kind, .int .i64 m.int, .int .i64 m.scale, .string (str m.text), .slice Bn m.names.length dn, .slice Bk q.len dk] 25) = W1
  have ST : St w [⟨w.heap.size, n, k, An, cn, Ak, ck⟩, ⟨w.heap.size + 1, m, q, Bn, dn, Bk, dk⟩] W1 := by rw [← hW1]; have := ST; simpa using this
  have hs1 : W1.heap.size = w.heap.size + 2 := by rw [← hW1]; simp
  generalize hW2 : W1.alloc (.cells #[.int .i64 0, .int .i64 0, .int .i64 0, .string ⟨#[]⟩, .slice none 0 0, .slice none 0 0] 25) = W2
  have b12 : Below W1.heap.size W1 W2 := by rw [← hW2]; exact (Below.refl _ _).alloc (Nat.le_refl _) _
  have B_W : Hid (Below w.heap.size w W2) := (ST.step b12).1
  have V_W : Hid (Blk W2 w.heap.size #[.int .i64 n.kind, .int .i64 n.int, .int .i64 n.scale, .string (str n.text), .slice An n.names.length cn, .slice Ak k.len ck] 25) := ((ST.step b12).box 0 rfl).1
  have X_W : Hid (Blk W2 (w.heap.size + 1) #[.int .i64 m.kind, .int .i64 m.int, .int .i64 m.scale, .string (str m.text), .slice Bn m.names.length dn, .slice Bk q.len dk] 25) := ((ST.step b12).box 1 rfl).1
  have R_W : Hid (Blk W2 (w.heap.size + 2) #[.int .i64 0, .int .i64 0, .int .i64 0, .string ⟨#[]⟩, .slice none 0 0, .slice none 0 0] 25) := by show Blk _ _ _ _; rw [← hs1, ← hW2]; exact Blk.new _ _ _
  have hs1 := Lib.hid hs1
  clear ST b12

  have HRES : Hid (withV n k x m q = (11, zNd, .nil)) := by show _ = _; unfold withV; rw [if_neg (by omega), if_pos h9]
  have HC1 : Hid (∀ W, Vo W (· < W.heap.size) n k (.agg #[.int .i64 n.kind, .int .i64 n.int, .int .i64 n.scale, .string (str n.text), .slice An n.names.length cn, .slice Ak k.len ck]) → Calls Try.prog 12 #[.agg #[.int .i64 n.kind, .int .i64 n.int, .int .i64 n.scale, .string (str n.text), .slice An n.names.length cn, .slice Ak k.len ck]] W (Ret (.int .i64 0) W)) := fun W h => by have := RCheck_any n k _ W h; rw [h1] at this; exact this
  have q9 : (n.kind == 9) = false := by rw [beq_eq_false_iff_ne]; exact h9
  clear h1 h9
  go_enter Try.func22, Try.ntmps22
  have x0 : W2.cell? ⟨w.heap.size, 0, none⟩ = some (.int .i64 n.kind) := V_W.out.cell 0
  have x1 : W2.cell? ⟨w.heap.size, 1, none⟩ = some (.int .i64 n.int) := V_W.out.cell 1
  have x2 : W2.cell? ⟨w.heap.size, 2, none⟩ = some (.int .i64 n.scale) := V_W.out.cell 2
  have x3 : W2.cell? ⟨w.heap.size, 3, none⟩ = some (.string (str n.text)) := V_W.out.cell 3
  have x4 : W2.cell? ⟨w.heap.size, 4, none⟩ = some (.slice An n.names.length cn) := V_W.out.cell 4
  have x5 : W2.cell? ⟨w.heap.size, 5, none⟩ = some (.slice Ak k.len ck) := V_W.out.cell 5
  go_wp2_with fail
  refine ((unhide HC1) _ (HV0.out.upto B_W.out)).mono ?_
  rintro e w3 ⟨rfl, b3⟩
  clear hW1 hW2
  clear x0 x1 x2 x3 x4 x5
  have B_w3 : Hid (Below w.heap.size w w3) := B_W.out.trans (b3.mono B_W.out.size)
  have V_w3 := Lib.hid (V_W.out.below b3 V_W.out.lt)
  have X_w3 := Lib.hid (X_W.out.below b3 X_W.out.lt)
  have R_w3 := Lib.hid (R_W.out.below b3 R_W.out.lt)
  clear B_W V_W X_W R_W b3
  have x0 : w3.cell? ⟨w.heap.size, 0, none⟩ = some (.int .i64 n.kind) := V_w3.out.cell 0
  have r0 : w3.cell? ⟨(w.heap.size + 2), 0, none⟩ = some (.int .i64 0) := R_w3.out.cell 0
  have r1 : w3.cell? ⟨(w.heap.size + 2), 1, none⟩ = some (.int .i64 0) := R_w3.out.cell 1
  have r2 : w3.cell? ⟨(w.heap.size + 2), 2, none⟩ = some (.int .i64 0) := R_w3.out.cell 2
  have r3 : w3.cell? ⟨(w.heap.size + 2), 3, none⟩ = some (.string ⟨#[]⟩) := R_w3.out.cell 3
  have r4 : w3.cell? ⟨(w.heap.size + 2), 4, none⟩ = some (.slice none 0 0) := R_w3.out.cell 4
  have r5 : w3.cell? ⟨(w.heap.size + 2), 5, none⟩ = some (.slice none 0 0) := R_w3.out.cell 5
  have r_0 := R_w3.out.free 0
  have r_1 := R_w3.out.free 1
  have r_2 := R_w3.out.free 2
  have r_3 := R_w3.out.free 3
  have r_4 := R_w3.out.free 4
  have r_5 := R_w3.out.free 5
  go_wp2_with fail
  refine bodyPost_ret (results_vb Try.results22 rfl rfl (Blk.put6 R_w3.out)) rfl ?_
  rw [HRES.out]
  exact ⟨_, rfl, rzero_vo _ _, below_six B_w3.out (by omega)⟩
set_option maxRecDepth 100000 in
set_option maxHeartbeats 12800000 in
theorem rwith_3 (n : Nd) (k : F) (m : Nd) (q : F) (v u : Value) (x : List UInt8) (w : World) (hw0 : cost n + wtF k ≤ 2500) (hw1 : cost m + wtF q ≤ 2500) (hx : x.length ≤ 500) (hv : Vo w (· < w.heap.size) n k v) (hu : Vo w (· < w.heap.size) m q u) (h1 : chk n k 1 = 0) (h9 : n.kind = 9) (h3 : chk m q 1 ≠ 0) :
    Calls Try.prog 22 #[v, .string (str x), u] w (RetR (withV n k x m q) w) := by
  obtain ⟨An, cn, Ak, ck, rfl, hok0, l0, l1, _, _⟩ := id hv
  obtain ⟨Bn, dn, Bk, dk, rfl, hok1, l2, l3, _, _⟩ := id hu
  have HV0 := Lib.hid hv
  have HV1 := Lib.hid hu
  have HOK := Lib.hid (And.intro hok0 (And.intro l0 l1))
  have ST := St.box_new (St.box_new (St.nil w) hv) hu
  clear hv hu hok0 hok1 l0 l1 l2 l3
  unfold ncells at *
  generalize hW1 : (w.alloc (.cells #[.int .i64 n.kind, .int .i64 n.int, .int .i64 n.scale, .string (str n.text), .slice An n.names.length cn, .slice Ak k.len ck] 25)).alloc (.cells #[.int .i64 m.kind, .int .i64 m.int, .int .i64 m.scale, .string (str m.text), .slice Bn m.names.length dn, .slice Bk q.len dk] 25) = W1
  have ST : St w [⟨w.heap.size, n, k, An, cn, Ak, ck⟩, ⟨w.heap.size + 1, m, q, Bn, dn, Bk, dk⟩] W1 := by rw [← hW1]; have := ST; simpa using this
  have hs1 : W1.heap.size = w.heap.size + 2 := by rw [← hW1]; simp
  generalize hW2 : W1.alloc (.cells #[.int .i64 0, .int .i64 0, .int .i64 0, .string ⟨#[]⟩, .slice none 0 0, .slice none 0 0] 25) = W2
  have b12 : Below W1.heap.size W1 W2 := by rw [← hW2]; exact (Below.refl _ _).alloc (Nat.le_refl _) _
  have B_W : Hid (Below w.heap.size w W2) := (ST.step b12).1
  have V_W : Hid (Blk W2 w.heap.size #[.int .i64 n.kind, .int .i64 n.int, .int .i64 n.scale, .string (str n.text), .slice An n.names.length cn, .slice Ak k.len ck] 25) := ((ST.step b12).box 0 rfl).1
  have X_W : Hid (Blk W2 (w.heap.size + 1) #[.int .i64 m.kind, .int .i64 m.int, .int .i64 m.scale, .string (str m.text), .slice Bn m.names.length dn, .slice Bk q.len dk] 25) := ((ST.step b12).box 1 rfl).1
  have R_W : Hid (Blk W2 (w.heap.size + 2) #[.int .i64 0, .int .i64 0, .int .i64 0, .string ⟨#[]⟩, .slice none 0 0, .slice none 0 0] 25) := by show Blk _ _ _ _; rw [← hs1, ← hW2]; exact Blk.new _ _ _
  have hs1 := Lib.hid hs1
  clear ST b12

  have HRES : Hid (withV n k x m q = (chk m q 1, zNd, .nil)) := by show _ = _; unfold withV; rw [if_neg (by omega), if_neg (by omega), if_pos h3]
  obtain ⟨C, hC⟩ : ∃ C, chk m q 1 = C := ⟨_, rfl⟩
  rw [hC] at HRES h3
  have HC1 : Hid (∀ W, Vo W (· < W.heap.size) n k (.agg #[.int .i64 n.kind, .int .i64 n.int, .int .i64 n.scale, .string (str n.text), .slice An n.names.length cn, .slice Ak k.len ck]) → Calls Try.prog 12 #[.agg #[.int .i64 n.kind, .int .i64 n.int, .int .i64 n.scale, .string (str n.text), .slice An n.names.length cn, .slice Ak k.len ck]] W (Ret (.int .i64 0) W)) := fun W h => by have := RCheck_any n k _ W h; rw [h1] at this; exact this
  have HC2 : Hid (∀ W, Vo W (· < W.heap.size) m q (.agg #[.int .i64 m.kind, .int .i64 m.int, .int .i64 m.scale, .string (str m.text), .slice Bn m.names.length dn, .slice Bk q.len dk]) → Calls Try.prog 12 #[.agg #[.int .i64 m.kind, .int .i64 m.int, .int .i64 m.scale, .string (str m.text), .slice Bn m.names.length dn, .slice Bk q.len dk]] W (Ret (.int .i64 (C : Int)) W)) := fun W h => by have := RCheck_any m q _ W h; rw [hC] at this; exact this
  have q1 : ((C : Int) == 0) = false := by rw [beq_eq_false_iff_ne]; omega
  have H9 := Lib.hid h9
  clear hC h1 h3 h9
  go_enter Try.func22, Try.ntmps22
  have x0 : W2.cell? ⟨w.heap.size, 0, none⟩ = some (.int .i64 n.kind) := V_W.out.cell 0
  have x1 : W2.cell? ⟨w.heap.size, 1, none⟩ = some (.int .i64 n.int) := V_W.out.cell 1
  have x2 : W2.cell? ⟨w.heap.size, 2, none⟩ = some (.int .i64 n.scale) := V_W.out.cell 2
  have x3 : W2.cell? ⟨w.heap.size, 3, none⟩ = some (.string (str n.text)) := V_W.out.cell 3
  have x4 : W2.cell? ⟨w.heap.size, 4, none⟩ = some (.slice An n.names.length cn) := V_W.out.cell 4
  have x5 : W2.cell? ⟨w.heap.size, 5, none⟩ = some (.slice Ak k.len ck) := V_W.out.cell 5
  go_wp2_with fail
  refine ((unhide HC1) _ (HV0.out.upto B_W.out)).mono ?_
  rintro e w3 ⟨rfl, b3⟩
  clear hW1 hW2
  clear x0 x1 x2 x3 x4 x5
  have B_w3 : Hid (Below w.heap.size w w3) := B_W.out.trans (b3.mono B_W.out.size)
  have V_w3 := Lib.hid (V_W.out.below b3 V_W.out.lt)
  have X_w3 := Lib.hid (X_W.out.below b3 X_W.out.lt)
  have R_w3 := Lib.hid (R_W.out.below b3 R_W.out.lt)
  clear B_W V_W X_W R_W b3
  have x0 : w3.cell? ⟨w.heap.size, 0, none⟩ = some (.int .i64 9) := by rw [← H9.out]; exact V_w3.out.cell 0
  have y0 : w3.cell? ⟨(w.heap.size + 1), 0, none⟩ = some (.int .i64 m.kind) := X_w3.out.cell 0
  have y1 : w3.cell? ⟨(w.heap.size + 1), 1, none⟩ = some (.int .i64 m.int) := X_w3.out.cell 1
  have y2 : w3.cell? ⟨(w.heap.size + 1), 2, none⟩ = some (.int .i64 m.scale) := X_w3.out.cell 2
  have y3 : w3.cell? ⟨(w.heap.size + 1), 3, none⟩ = some (.string (str m.text)) := X_w3.out.cell 3
  have y4 : w3.cell? ⟨(w.heap.size + 1), 4, none⟩ = some (.slice Bn m.names.length dn) := X_w3.out.cell 4
  have y5 : w3.cell? ⟨(w.heap.size + 1), 5, none⟩ = some (.slice Bk q.len dk) := X_w3.out.cell 5
  go_wp2_with fail
  refine ((unhide HC2) _ (HV1.out.upto B_w3.out)).mono ?_
  rintro e w4 ⟨rfl, b4⟩
  clear x0
  clear y0 y1 y2 y3 y4 y5
  have B_w4 : Hid (Below w.heap.size w w4) := B_w3.out.trans (b4.mono B_w3.out.size)
  have V_w4 := Lib.hid (V_w3.out.below b4 V_w3.out.lt)
  have X_w4 := Lib.hid (X_w3.out.below b4 X_w3.out.lt)
  have R_w4 := Lib.hid (R_w3.out.below b4 R_w3.out.lt)
  clear B_w3 V_w3 X_w3 R_w3 b4
  have r0 : w4.cell? ⟨(w.heap.size + 2), 0, none⟩ = some (.int .i64 0) := R_w4.out.cell 0
  have r1 : w4.cell? ⟨(w.heap.size + 2), 1, none⟩ = some (.int .i64 0) := R_w4.out.cell 1
  have r2 : w4.cell? ⟨(w.heap.size + 2), 2, none⟩ = some (.int .i64 0) := R_w4.out.cell 2
  have r3 : w4.cell? ⟨(w.heap.size + 2), 3, none⟩ = some (.string ⟨#[]⟩) := R_w4.out.cell 3
  have r4 : w4.cell? ⟨(w.heap.size + 2), 4, none⟩ = some (.slice none 0 0) := R_w4.out.cell 4
  have r5 : w4.cell? ⟨(w.heap.size + 2), 5, none⟩ = some (.slice none 0 0) := R_w4.out.cell 5
  have r_0 := R_w4.out.free 0
  have r_1 := R_w4.out.free 1
  have r_2 := R_w4.out.free 2
  have r_3 := R_w4.out.free 3
  have r_4 := R_w4.out.free 4
  have r_5 := R_w4.out.free 5
  go_wp2_with fail
  refine bodyPost_ret (results_vb Try.results22 rfl rfl (Blk.put6 R_w4.out)) rfl ?_
  rw [HRES.out]
  exact ⟨_, rfl, rzero_vo _ _, below_six B_w4.out (by omega)⟩
theorem vo_six {W : World} {g : Nat} {v0 v1 v2 v3 v4 v5 v : Value} {S S' : Nat → Prop} {n : Nd} {k : F} (h : Vo W S n k v) (hne : ∀ i, S i → i ≠ g) (hS : ∀ i, S i → S' i) :
    Vo ((((((W.setCell ⟨g, 0, none⟩ v0).setCell ⟨g, 1, none⟩ v1).setCell ⟨g, 2, none⟩ v2).setCell ⟨g, 3, none⟩ v3).setCell ⟨g, 4, none⟩ v4).setCell ⟨g, 5, none⟩ v5) S' n k v :=
  h.keep (fun i hi => by
    have := hne i hi
    repeat rw [Below.heap_setCell _ _ _ _ (by exact this)]) hS

set_option maxRecDepth 100000 in
set_option maxHeartbeats 12800000 in
theorem rwith_4 (n : Nd) (k : F) (m : Nd) (q : F) (v u : Value) (x : List UInt8) (w : World) (hw0 : cost n + wtF k ≤ 2500) (hw1 : cost m + wtF q ≤ 2500) (hx : x.length ≤ 500) (hv : Vo w (· < w.heap.size) n k v) (hu : Vo w (· < w.heap.size) m q u) (h1 : chk n k 1 = 0) (h9 : n.kind = 9) (h3 : chk m q 1 = 0) (hnl : n.names.length = k.len) (hkl : k.len ≤ 200) :
    Calls Try.prog 22 #[v, .string (str x), u] w (RetR (withV n k x m q) w) := by
  obtain ⟨An, cn, Ak, ck, rfl, hok0, l0, l1, _, _⟩ := id hv
  obtain ⟨Bn, dn, Bk, dk, rfl, hok1, l2, l3, _, _⟩ := id hu
  have HV0 := Lib.hid hv
  have HV1 := Lib.hid hu
  have HOK := Lib.hid (And.intro hok0 (And.intro l0 l1))
  have ST := St.box_new (St.box_new (St.nil w) hv) hu
  clear hv hu hok0 hok1 l0 l1 l2 l3
  unfold ncells at *
  generalize hW1 : (w.alloc (.cells #[.int .i64 n.kind, .int .i64 n.int, .int .i64 n.scale, .string (str n.text), .slice An n.names.length cn, .slice Ak k.len ck] 25)).alloc (.cells #[.int .i64 m.kind, .int .i64 m.int, .int .i64 m.scale, .string (str m.text), .slice Bn m.names.length dn, .slice Bk q.len dk] 25) = W1
  have ST : St w [⟨w.heap.size, n, k, An, cn, Ak, ck⟩, ⟨w.heap.size + 1, m, q, Bn, dn, Bk, dk⟩] W1 := by rw [← hW1]; have := ST; simpa using this
  have hs1 : W1.heap.size = w.heap.size + 2 := by rw [← hW1]; simp
  generalize hW2 : W1.alloc (.cells #[.int .i64 0, .int .i64 0, .int .i64 0, .string ⟨#[]⟩, .slice none 0 0, .slice none 0 0] 25) = W2
  have b12 : Below W1.heap.size W1 W2 := by rw [← hW2]; exact (Below.refl _ _).alloc (Nat.le_refl _) _
  have B_W : Hid (Below w.heap.size w W2) := (ST.step b12).1
  have V_W : Hid (Blk W2 w.heap.size #[.int .i64 n.kind, .int .i64 n.int, .int .i64 n.scale, .string (str n.text), .slice An n.names.length cn, .slice Ak k.len ck] 25) := ((ST.step b12).box 0 rfl).1
  have X_W : Hid (Blk W2 (w.heap.size + 1) #[.int .i64 m.kind, .int .i64 m.int, .int .i64 m.scale, .string (str m.text), .slice Bn m.names.length dn, .slice Bk q.len dk] 25) := ((ST.step b12).box 1 rfl).1
  have R_W : Hid (Blk W2 (w.heap.size + 2) #[.int .i64 0, .int .i64 0, .int .i64 0, .string ⟨#[]⟩, .slice none 0 0, .slice none 0 0] 25) := by show Blk _ _ _ _; rw [← hs1, ← hW2]; exact Blk.new _ _ _
  have hs1 := Lib.hid hs1
  clear ST b12

  have HRES : Hid (withV n k x m q = if chk (layN n x) (layK n k x m q) 1 ≠ 0 then (chk (layN n x) (layK n k x m q) 1, zNd, .nil) else (0, layN n x, layK n k x m q)) := by show _ = _; unfold withV; rw [if_neg (by omega), if_neg (by omega), if_neg (by omega)]
  have HC1 : Hid (∀ W, Vo W (· < W.heap.size) n k (.agg #[.int .i64 n.kind, .int .i64 n.int, .int .i64 n.scale, .string (str n.text), .slice An n.names.length cn, .slice Ak k.len ck]) → Calls Try.prog 12 #[.agg #[.int .i64 n.kind, .int .i64 n.int, .int .i64 n.scale, .string (str n.text), .slice An n.names.length cn, .slice Ak k.len ck]] W (Ret (.int .i64 0) W)) := fun W h => by have := RCheck_any n k _ W h; rw [h1] at this; exact this
  have HC2 : Hid (∀ W, Vo W (· < W.heap.size) m q (.agg #[.int .i64 m.kind, .int .i64 m.int, .int .i64 m.scale, .string (str m.text), .slice Bn m.names.length dn, .slice Bk q.len dk]) → Calls Try.prog 12 #[.agg #[.int .i64 m.kind, .int .i64 m.int, .int .i64 m.scale, .string (str m.text), .slice Bn m.names.length dn, .slice Bk q.len dk]] W (Ret (.int .i64 0) W)) := fun W h => by have := RCheck_any m q _ W h; rw [h3] at this; exact this
  have HO1 : Hid (∀ W, Vo W (· < W.heap.size) n k (.agg #[.int .i64 n.kind, .int .i64 n.int, .int .i64 n.scale, .string (str n.text), .slice An n.names.length cn, .slice Ak k.len ck]) → Calls Try.prog 8 #[.agg #[.int .i64 n.kind, .int .i64 n.int, .int .i64 n.scale, .string (str n.text), .slice An n.names.length cn, .slice Ak k.len ck]] W (RetV n k W)) := fun W h => clone_any n k _ W hw0 h
  have HO2 : Hid (∀ W, Vo W (· < W.heap.size) m q (.agg #[.int .i64 m.kind, .int .i64 m.int, .int .i64 m.scale, .string (str m.text), .slice Bn m.names.length dn, .slice Bk q.len dk]) → Calls Try.prog 8 #[.agg #[.int .i64 m.kind, .int .i64 m.int, .int .i64 m.scale, .string (str m.text), .slice Bn m.names.length dn, .slice Bk q.len dk]] W (RetV m q W)) := fun W h => clone_any m q _ W hw1 h
  have HLAY : Hid (∀ (W : World) (c1 c2 : Value) (S : Nat → Prop), Vo W S n k c1 → Vo W S m q c2 → (∀ b, S b → b < W.heap.size) → Calls Try.prog 37 #[c1, .string (str x), c2] W (RetLay S (layN n x) (layK n k x m q) W)) := fun W c1 c2 S h h' hS => rlay_any n k m q c1 c2 x W hx S hS h h' hnl hkl
  generalize layN n x = NN at *
  generalize layK n k x m q = KK at *
  have H9 := Lib.hid h9
  clear h1 h3 h9 hw0 hw1 hnl hkl hx
  go_enter Try.func22, Try.ntmps22
  have x0 : W2.cell? ⟨w.heap.size, 0, none⟩ = some (.int .i64 n.kind) := V_W.out.cell 0
  have x1 : W2.cell? ⟨w.heap.size, 1, none⟩ = some (.int .i64 n.int) := V_W.out.cell 1
  have x2 : W2.cell? ⟨w.heap.size, 2, none⟩ = some (.int .i64 n.scale) := V_W.out.cell 2
  have x3 : W2.cell? ⟨w.heap.size, 3, none⟩ = some (.string (str n.text)) := V_W.out.cell 3
  have x4 : W2.cell? ⟨w.heap.size, 4, none⟩ = some (.slice An n.names.length cn) := V_W.out.cell 4
  have x5 : W2.cell? ⟨w.heap.size, 5, none⟩ = some (.slice Ak k.len ck) := V_W.out.cell 5
  go_wp2_with fail
  refine ((unhide HC1) _ (HV0.out.upto B_W.out)).mono ?_
  rintro e w3 ⟨rfl, b3⟩
  clear hW1 hW2
  clear x0 x1 x2 x3 x4 x5
  have B_w3 : Hid (Below w.heap.size w w3) := B_W.out.trans (b3.mono B_W.out.size)
  have V_w3 := Lib.hid (V_W.out.below b3 V_W.out.lt)
  have X_w3 := Lib.hid (X_W.out.below b3 X_W.out.lt)
  have R_w3 := Lib.hid (R_W.out.below b3 R_W.out.lt)
  clear B_W V_W X_W R_W b3
  have x0 : w3.cell? ⟨w.heap.size, 0, none⟩ = some (.int .i64 9) := by rw [← H9.out]; exact V_w3.out.cell 0
  have y0 : w3.cell? ⟨(w.heap.size + 1), 0, none⟩ = some (.int .i64 m.kind) := X_w3.out.cell 0
  have y1 : w3.cell? ⟨(w.heap.size + 1), 1, none⟩ = some (.int .i64 m.int) := X_w3.out.cell 1
  have y2 : w3.cell? ⟨(w.heap.size + 1), 2, none⟩ = some (.int .i64 m.scale) := X_w3.out.cell 2
  have y3 : w3.cell? ⟨(w.heap.size + 1), 3, none⟩ = some (.string (str m.text)) := X_w3.out.cell 3
  have y4 : w3.cell? ⟨(w.heap.size + 1), 4, none⟩ = some (.slice Bn m.names.length dn) := X_w3.out.cell 4
  have y5 : w3.cell? ⟨(w.heap.size + 1), 5, none⟩ = some (.slice Bk q.len dk) := X_w3.out.cell 5
  go_wp2_with fail
  refine ((unhide HC2) _ (HV1.out.upto B_w3.out)).mono ?_
  rintro e w4 ⟨rfl, b4⟩
  clear x0
  clear y0 y1 y2 y3 y4 y5
  have B_w4 : Hid (Below w.heap.size w w4) := B_w3.out.trans (b4.mono B_w3.out.size)
  have V_w4 := Lib.hid (V_w3.out.below b4 V_w3.out.lt)
  have X_w4 := Lib.hid (X_w3.out.below b4 X_w3.out.lt)
  have R_w4 := Lib.hid (R_w3.out.below b4 R_w3.out.lt)
  clear B_w3 V_w3 X_w3 R_w3 b4
  go_upto_region 9 with fail
  go_cut [9] (fun s9 wx => With10 w NN KK s9 wx)
  case first =>
    have B_v0 : Hid (Below w.heap.size w w4.drew) := below_drewN B_w4.out 1
    have V_v0 : Hid (Blk w4.drew w.heap.size #[.int .i64 n.kind, .int .i64 n.int, .int .i64 n.scale, .string (str n.text), .slice An n.names.length cn, .slice Ak k.len ck] 25) := V_w4.out
    have X_v0 : Hid (Blk w4.drew (w.heap.size + 1) #[.int .i64 m.kind, .int .i64 m.int, .int .i64 m.scale, .string (str m.text), .slice Bn m.names.length dn, .slice Bk q.len dk] 25) := X_w4.out
    have R_v0 : Hid (Blk w4.drew (w.heap.size + 2) #[.int .i64 0, .int .i64 0, .int .i64 0, .string ⟨#[]⟩, .slice none 0 0, .slice none 0 0] 25) := R_w4.out
    refine wp_region_late 7 (fun _ => True) (fun w' => (w'.cell? ⟨w.heap.size, 0, none⟩ = some (.int .i64 n.kind) ∧ w'.cell? ⟨w.heap.size, 1, none⟩ = some (.int .i64 n.int) ∧ w'.cell? ⟨w.heap.size, 2, none⟩ = some (.int .i64 n.scale) ∧ w'.cell? ⟨w.heap.size, 3, none⟩ = some (.string (str n.text)) ∧ w'.cell? ⟨w.heap.size, 4, none⟩ = some (.slice An n.names.length cn) ∧ w'.cell? ⟨w.heap.size, 5, none⟩ = some (.slice Ak k.len ck)) ∧ (w'.cell? ⟨(w.heap.size + 1), 0, none⟩ = some (.int .i64 m.kind) ∧ w'.cell? ⟨(w.heap.size + 1), 1, none⟩ = some (.int .i64 m.int) ∧ w'.cell? ⟨(w.heap.size + 1), 2, none⟩ = some (.int .i64 m.scale) ∧ w'.cell? ⟨(w.heap.size + 1), 3, none⟩ = some (.string (str m.text)) ∧ w'.cell? ⟨(w.heap.size + 1), 4, none⟩ = some (.slice Bn m.names.length dn) ∧ w'.cell? ⟨(w.heap.size + 1), 5, none⟩ = some (.slice Bk q.len dk))) (by kernel_rfl) (⟨trivial, six_ V_v0.out, six_ X_v0.out⟩) (fun hHeld => ?_)
    generalize w4.drew = v0 at *
    have z_v0 := R_v0.out.lt
    clear B_w4 V_w4 X_w4 R_w4
    refine wpAnyL_takeT (i := 0) (oi := { dst := some 26, op := .load 25 (.tmp 3), type := 25, pos := "value.go:256", after := #[], guard := none }) (v := ?_) rfl (by kernel_rfl) (by kernel_rfl) (by kernel_rfl) (by kernel_rfl) (fun _ _ _ h => h) (Or.inl ⟨by rfl, ?_⟩) (⟨.inr hHeld.1, hHeld.2⟩) ?_
    rotate_left
    · (intro w hSw; (try dsimp only at hSw); go_simp; try with_reducible rfl)
    try simp only [Act.put, List.setIfInBounds_toArray, List.set_cons_zero, List.set_cons_succ]
    refine wpAnyL_takeT (i := 2) (oi := { dst := some 28, op := .move (.tmp 1), type := 9, pos := "value.go:256", after := #[], guard := none }) (v := ?_) rfl (by kernel_rfl) (by kernel_rfl) (by kernel_rfl) (by kernel_rfl) (fun _ _ _ h => h) (Or.inl ⟨by rfl, ?_⟩) (⟨.inr hHeld.1, hHeld.2⟩) ?_
    rotate_left
    · (intro w hSw; (try dsimp only at hSw); go_simp; try with_reducible rfl)
    try simp only [Act.put, List.setIfInBounds_toArray, List.set_cons_zero, List.set_cons_succ]
    refine wpAnyL_takeT (i := 3) (oi := { dst := some 29, op := .load 25 (.tmp 5), type := 25, pos := "value.go:256", after := #[], guard := none }) (v := ?_) rfl (by kernel_rfl) (by kernel_rfl) (by kernel_rfl) (by kernel_rfl) (fun _ _ _ h => h) (Or.inl ⟨by rfl, ?_⟩) (⟨.inr hHeld.1, hHeld.2⟩) ?_
    rotate_left
    · (intro w hSw; (try dsimp only at hSw); go_simp; try with_reducible rfl)
    try simp only [Act.put, List.setIfInBounds_toArray, List.set_cons_zero, List.set_cons_succ]
    refine wpAnyL_ready (rs := [1, 6]) (by kernel_rfl) (by simp) ?_
    refine AllReadyL.cons (o := { dst := some 27, op := .call { callee := .value (.func 8), args := #[.tmp 26], argTypes := #[25] }, type := 25, pos := "value.go:256", after := #[{ on := 0, ground := .data }], guard := none }) rfl (fun K hK => ?_) ?_
    go_simp
    refine ((unhide HO1) v0 (HV0.out.upto B_v0.out)).mono ?_
    rintro e v1 ⟨vv, rfl, vo_v1, b_v1⟩
    have vo2 := vo_v1.keep (w' := v1) (S' := fun i => i < v1.heap.size ∧ w.heap.size + 3 ≤ i) (fun _ _ => rfl) (fun i hi => ⟨hi.2, by have := hi.1; have := R_v0.out.lt; omega⟩)
    clear vo_v1
    obtain ⟨Cn, en, Ck, ek, rfl, _, _, _, _, _⟩ := id vo2
    unfold ncells at vo2
    unfold ncells
    have B_v1 : Hid (Below w.heap.size w v1) := B_v0.out.trans (b_v1.mono B_v0.out.size)
    have z_v1 : v0.heap.size ≤ v1.heap.size := b_v1.size
    have V_v1 := Lib.hid (V_v0.out.below b_v1 V_v0.out.lt)
    have X_v1 := Lib.hid (X_v0.out.below b_v1 X_v0.out.lt)
    have R_v1 := Lib.hid (R_v0.out.below b_v1 R_v0.out.lt)
    have C_v1 := Lib.hid vo2
    clear vo2
    go_wp2_with fail
    refine hK.out _ _ (⟨trivial, six_ V_v1.out, six_ X_v1.out⟩) (fun hHeld => ?_)
    clear hK K
    try simp only [Act.put, List.setIfInBounds_toArray, List.set_cons_zero, List.set_cons_succ]
    refine wpAnyL_ready (rs := [4, 6]) (by kernel_rfl) (by simp) ?_
    refine AllReadyL.cons (o := { dst := some 30, op := .call { callee := .value (.func 8), args := #[.tmp 29], argTypes := #[25] }, type := 25, pos := "value.go:256", after := #[{ on := 3, ground := .data }, { on := 1, ground := .chain }], guard := none }) rfl (fun K hK => ?_) ?_
    go_simp
    refine ((unhide HO2) v1 (HV1.out.upto B_v1.out)).mono ?_
    rintro e v2 ⟨vv, rfl, vo_v2, b_v2⟩
    have vo2 := vo_v2.keep (w' := v2) (S' := fun i => i < v2.heap.size ∧ w.heap.size + 3 ≤ i) (fun _ _ => rfl) (fun i hi => ⟨hi.2, by have := hi.1; have := R_v1.out.lt; omega⟩)
    clear vo_v2
    obtain ⟨Dn, fn, Dk, fk, rfl, _, _, _, _, _⟩ := id vo2
    unfold ncells at vo2
    unfold ncells
    have B_v2 : Hid (Below w.heap.size w v2) := B_v1.out.trans (b_v2.mono B_v1.out.size)
    have z_v2 : v1.heap.size ≤ v2.heap.size := b_v2.size
    have V_v2 := Lib.hid (V_v1.out.below b_v2 V_v1.out.lt)
    have X_v2 := Lib.hid (X_v1.out.below b_v2 X_v1.out.lt)
    have R_v2 := Lib.hid (R_v1.out.below b_v2 R_v1.out.lt)
    have C_v2 := Lib.hid (Vo.keep (w' := v2) (S' := fun i => i < v2.heap.size ∧ w.heap.size + 3 ≤ i) C_v1.out (fun i hi => b_v2.block i hi.1) (fun i hi => ⟨Nat.lt_of_lt_of_le hi.1 b_v2.size, hi.2⟩))
    have D_v2 := Lib.hid vo2
    clear vo2
    go_wp2_with fail
    refine hK.out _ _ (⟨trivial, six_ V_v2.out, six_ X_v2.out⟩) (fun hHeld => ?_)
    clear hK K
    try simp only [Act.put, List.setIfInBounds_toArray, List.set_cons_zero, List.set_cons_succ]
    refine wpAnyL_ready (rs := [5, 6]) (by kernel_rfl) (by simp) ?_
    refine AllReadyL.cons (o := { dst := some 31, op := .call { callee := .value (.func 37), args := #[.tmp 27, .tmp 28, .tmp 30], argTypes := #[25, 9, 25] }, type := 25, pos := "value.go:256", after := #[{ on := 1, ground := .data }, { on := 2, ground := .data }, { on := 4, ground := .data }, { on := 4, ground := .chain }], guard := none }) rfl (fun K hK => ?_) ?_
    go_simp
    refine ((unhide HLAY) v2 _ _ _ C_v2.out D_v2.out (fun b hb => hb.1)).mono ?_
    rintro e v3 ⟨vv, rfl, vo_v3, b_v3⟩
    have vo2 := vo_v3.keep (w' := v3) (S' := fun i => i < v3.heap.size ∧ w.heap.size + 3 ≤ i) (fun _ _ => rfl) (fun i hi => ⟨hi.1, by
      rcases hi.2 with h | h
      · exact h.2
      · have := R_v2.out.lt; omega⟩)
    clear vo_v3
    obtain ⟨Fn, hn, Fk, hk, rfl, _, _, _, _, _⟩ := id vo2
    unfold ncells at vo2
    unfold ncells
    have B_v3 : Hid (Below w.heap.size w v3) := B_v2.out.trans (b_v3.mono B_v2.out.size)
    have z_v3 : v2.heap.size ≤ v3.heap.size := b_v3.size
    have V_v3 := Lib.hid (V_v2.out.below b_v3 V_v2.out.lt)
    have X_v3 := Lib.hid (X_v2.out.below b_v3 X_v2.out.lt)
    have R_v3 := Lib.hid (R_v2.out.below b_v3 R_v2.out.lt)
    have C_v3 := Lib.hid (Vo.keep (w' := v3) (S' := fun i => i < v3.heap.size ∧ w.heap.size + 3 ≤ i) C_v2.out (fun i hi => b_v3.block i hi.1) (fun i hi => ⟨Nat.lt_of_lt_of_le hi.1 b_v3.size, hi.2⟩))
    have D_v3 := Lib.hid (Vo.keep (w' := v3) (S' := fun i => i < v3.heap.size ∧ w.heap.size + 3 ≤ i) D_v2.out (fun i hi => b_v3.block i hi.1) (fun i hi => ⟨Nat.lt_of_lt_of_le hi.1 b_v3.size, hi.2⟩))
    have E_v3 := Lib.hid vo2
    clear vo2
    go_wp2_with fail
    refine hK.out _ _ (⟨trivial, six_ V_v3.out, six_ X_v3.out⟩) (fun hHeld => ?_)
    clear hK K
    try simp only [Act.put, List.setIfInBounds_toArray, List.set_cons_zero, List.set_cons_succ]
    refine wpAnyL_ready (rs := [6]) (by kernel_rfl) (by simp) ?_
    refine AllReadyL.cons (o := { dst := some 9, op := .alloc 25, type := 0, pos := "value.go:256", after := #[], guard := none }) rfl (fun K hK => ?_) AllReadyL.nil
    go_simp
    obtain ⟨v4, h_v4⟩ : ∃ v, v3.alloc (.cells #[.int .i64 0, .int .i64 0, .int .i64 0, .string ⟨#[]⟩, .slice none 0 0, .slice none 0 0] 25) = v := ⟨_, rfl⟩
    rw [h_v4]
    have b_v4 : Below v3.heap.size v3 v4 := by rw [← h_v4]; exact (Below.refl _ _).alloc (Nat.le_refl _) _
    have B_v4 : Hid (Below w.heap.size w v4) := B_v3.out.trans (b_v4.mono B_v3.out.size)
    have z_v4 : v3.heap.size ≤ v4.heap.size := b_v4.size
    have V_v4 := Lib.hid (V_v3.out.below b_v4 V_v3.out.lt)
    have X_v4 := Lib.hid (X_v3.out.below b_v4 X_v3.out.lt)
    have R_v4 := Lib.hid (R_v3.out.below b_v4 R_v3.out.lt)
    have C_v4 := Lib.hid (Vo.keep (w' := v4) (S' := fun i => i < v4.heap.size ∧ w.heap.size + 3 ≤ i ∧ i ≠ v3.heap.size) C_v3.out (fun i hi => b_v4.block i hi.1) (fun i hi => ⟨Nat.lt_of_lt_of_le hi.1 b_v4.size, hi.2, by have := hi.1; omega⟩))
    have D_v4 := Lib.hid (Vo.keep (w' := v4) (S' := fun i => i < v4.heap.size ∧ w.heap.size + 3 ≤ i ∧ i ≠ v3.heap.size) D_v3.out (fun i hi => b_v4.block i hi.1) (fun i hi => ⟨Nat.lt_of_lt_of_le hi.1 b_v4.size, hi.2, by have := hi.1; omega⟩))
    have E_v4 := Lib.hid (Vo.keep (w' := v4) (S' := fun i => i < v4.heap.size ∧ w.heap.size + 3 ≤ i ∧ i ≠ v3.heap.size) E_v3.out (fun i hi => b_v4.block i hi.1) (fun i hi => ⟨Nat.lt_of_lt_of_le hi.1 b_v4.size, hi.2, by have := hi.1; omega⟩))
    have G_v4 : Hid (Blk v4 v3.heap.size #[.int .i64 0, .int .i64 0, .int .i64 0, .string ⟨#[]⟩, .slice none 0 0, .slice none 0 0] 25) := by show Blk _ _ _ _; rw [← h_v4]; exact Blk.new _ _ _
    have hg : w.heap.size + 2 < v3.heap.size := R_v3.out.lt
    clear h_v4
    refine hK.out _ _ (⟨trivial, six_ V_v4.out, six_ X_v4.out⟩) (fun hHeld => ?_)
    clear hK K
    try simp only [Act.put, List.setIfInBounds_toArray, List.set_cons_zero, List.set_cons_succ]
    refine wpAnyL_ready (rs := [7]) (by kernel_rfl) (by simp) ?_
    refine AllReadyL.late (o := { dst := none, op := .store 25 (.tmp 9) (.tmp 31), type := 0, pos := "value.go:256", after := #[{ on := 6, ground := .data }, { on := 5, ground := .data }, { on := 5, ground := .chain }, { on := 0, ground := .phase }, { on := 1, ground := .phase }, { on := 2, ground := .phase }, { on := 3, ground := .phase }, { on := 4, ground := .phase }, { on := 5, ground := .phase }, { on := 6, ground := .phase }], guard := none }) rfl (by kernel_rfl) (fun K hK => ?_) AllReadyL.nil
    have s0 : v4.cell? ⟨v3.heap.size, 0, none⟩ = some (.int .i64 0) := G_v4.out.cell 0
    have s_0 := G_v4.out.free 0
    have s1 : v4.cell? ⟨v3.heap.size, 1, none⟩ = some (.int .i64 0) := G_v4.out.cell 1
    have s_1 := G_v4.out.free 1
    have s2 : v4.cell? ⟨v3.heap.size, 2, none⟩ = some (.int .i64 0) := G_v4.out.cell 2
    have s_2 := G_v4.out.free 2
    have s3 : v4.cell? ⟨v3.heap.size, 3, none⟩ = some (.string ⟨#[]⟩) := G_v4.out.cell 3
    have s_3 := G_v4.out.free 3
    have s4 : v4.cell? ⟨v3.heap.size, 4, none⟩ = some (.slice none 0 0) := G_v4.out.cell 4
    have s_4 := G_v4.out.free 4
    have s5 : v4.cell? ⟨v3.heap.size, 5, none⟩ = some (.slice none 0 0) := G_v4.out.cell 5
    have s_5 := G_v4.out.free 5
    go_simp
    obtain ⟨v5, h_v5⟩ : ∃ v, ((((((v4.setCell ⟨v3.heap.size, 0, none⟩ (.int .i64 NN.kind)).setCell ⟨v3.heap.size, 1, none⟩ (.int .i64 NN.int)).setCell ⟨v3.heap.size, 2, none⟩ (.int .i64 NN.scale)).setCell ⟨v3.heap.size, 3, none⟩ (.string (str NN.text))).setCell ⟨v3.heap.size, 4, none⟩ (.slice Fn NN.names.length hn)).setCell ⟨v3.heap.size, 5, none⟩ (.slice Fk KK.len hk)) = v := ⟨_, rfl⟩
    rw [h_v5]
    clear s0 s_0 s1 s_1 s2 s_2 s3 s_3 s4 s_4 s5 s_5
    have B_v5 : Hid (Below w.heap.size w v5) := by show Below _ _ _; rw [← h_v5]; exact below_six B_v4.out (by omega)
    have G_v5 : Hid (Blk v5 v3.heap.size #[.int .i64 NN.kind, .int .i64 NN.int, .int .i64 NN.scale, .string (str NN.text), .slice Fn NN.names.length hn, .slice Fk KK.len hk] 25) := by show Blk _ _ _ _; rw [← h_v5]; exact Blk.put6 G_v4.out
    have V_v5 := Lib.hid (show Blk v5 _ _ _ from by rw [← h_v5]; exact Blk.six_other V_v4.out (by omega))
    have X_v5 := Lib.hid (show Blk v5 _ _ _ from by rw [← h_v5]; exact Blk.six_other X_v4.out (by omega))
    have R_v5 := Lib.hid (show Blk v5 _ _ _ from by rw [← h_v5]; exact Blk.six_other R_v4.out (by omega))
    have FIN : With10 w NN KK (.pointer (some ⟨v3.heap.size, 0, none⟩)) v5 := ⟨v3.heap.size, Fn, hn, Fk, hk, rfl, hg, B_v5.out, G_v5.out, R_v5.out, by rw [← h_v5]; exact vo_six E_v4.out (fun i hi => hi.2.2) (fun i hi => ⟨by simpa using hi.1, hi.2.1⟩)⟩
    clear h_v5
    refine hK.out _ _ (⟨six_ V_v5.out, six_ X_v5.out⟩) (fun hHeld => ?_)
    clear hK K
    try simp only [Act.put, List.setIfInBounds_toArray, List.set_cons_zero, List.set_cons_succ]
    refine wpAnyL_done (by kernel_rfl) ?_ _
    rotate_left 1
    refine AllReadyL.cons (o := { dst := some 9, op := .alloc 25, type := 0, pos := "value.go:256", after := #[], guard := none }) rfl (fun K hK => ?_) AllReadyL.nil
    go_simp
    obtain ⟨v6, h_v6⟩ : ∃ v, v2.alloc (.cells #[.int .i64 0, .int .i64 0, .int .i64 0, .string ⟨#[]⟩, .slice none 0 0, .slice none 0 0] 25) = v := ⟨_, rfl⟩
    rw [h_v6]
    have b_v6 : Below v2.heap.size v2 v6 := by rw [← h_v6]; exact (Below.refl _ _).alloc (Nat.le_refl _) _
    have B_v6 : Hid (Below w.heap.size w v6) := B_v2.out.trans (b_v6.mono B_v2.out.size)
    have z_v6 : v2.heap.size ≤ v6.heap.size := b_v6.size
    have V_v6 := Lib.hid (V_v2.out.below b_v6 V_v2.out.lt)
    have X_v6 := Lib.hid (X_v2.out.below b_v6 X_v2.out.lt)
    have R_v6 := Lib.hid (R_v2.out.below b_v6 R_v2.out.lt)
    have C_v6 := Lib.hid (Vo.keep (w' := v6) (S' := fun i => i < v6.heap.size ∧ w.heap.size + 3 ≤ i ∧ i ≠ v2.heap.size) C_v2.out (fun i hi => b_v6.block i hi.1) (fun i hi => ⟨Nat.lt_of_lt_of_le hi.1 b_v6.size, hi.2, by have := hi.1; omega⟩))
    have D_v6 := Lib.hid (Vo.keep (w' := v6) (S' := fun i => i < v6.heap.size ∧ w.heap.size + 3 ≤ i ∧ i ≠ v2.heap.size) D_v2.out (fun i hi => b_v6.block i hi.1) (fun i hi => ⟨Nat.lt_of_lt_of_le hi.1 b_v6.size, hi.2, by have := hi.1; omega⟩))
    have G_v6 : Hid (Blk v6 v2.heap.size #[.int .i64 0, .int .i64 0, .int .i64 0, .string ⟨#[]⟩, .slice none 0 0, .slice none 0 0] 25) := by show Blk _ _ _ _; rw [← h_v6]; exact Blk.new _ _ _
    have hg : w.heap.size + 2 < v2.heap.size := R_v2.out.lt
    clear h_v6
    refine hK.out _ _ (⟨trivial, six_ V_v6.out, six_ X_v6.out⟩) (fun hHeld => ?_)
    clear hK K
    try simp only [Act.put, List.setIfInBounds_toArray, List.set_cons_zero, List.set_cons_succ]
    refine wpAnyL_ready (rs := [5]) (by kernel_rfl) (by simp) ?_
    refine AllReadyL.cons (o := { dst := some 31, op := .call { callee := .value (.func 37), args := #[.tmp 27, .tmp 28, .tmp 30], argTypes := #[25, 9, 25] }, type := 25, pos := "value.go:256", after := #[{ on := 1, ground := .data }, { on := 2, ground := .data }, { on := 4, ground := .data }, { on := 4, ground := .chain }], guard := none }) rfl (fun K hK => ?_) AllReadyL.nil
    go_simp
    refine ((unhide HLAY) v6 _ _ _ C_v6.out D_v6.out (fun b hb => hb.1)).mono ?_
    rintro e v7 ⟨vv, rfl, vo_v7, b_v7⟩
    have vo2 := vo_v7.keep (w' := v7) (S' := fun i => i < v7.heap.size ∧ w.heap.size + 3 ≤ i ∧ i ≠ v2.heap.size) (fun _ _ => rfl) (fun i hi => ⟨hi.1, by
      rcases hi.2 with h | h
      · exact h.2.1
      · have := R_v6.out.lt; omega, by
      rcases hi.2 with h | h
      · exact h.2.2
      · have := G_v6.out.lt; omega⟩)
    clear vo_v7
    obtain ⟨Fn, hn, Fk, hk, rfl, _, _, _, _, _⟩ := id vo2
    unfold ncells at vo2
    unfold ncells
    have B_v7 : Hid (Below w.heap.size w v7) := B_v6.out.trans (b_v7.mono B_v6.out.size)
    have z_v7 : v6.heap.size ≤ v7.heap.size := b_v7.size
    have V_v7 := Lib.hid (V_v6.out.below b_v7 V_v6.out.lt)
    have X_v7 := Lib.hid (X_v6.out.below b_v7 X_v6.out.lt)
    have R_v7 := Lib.hid (R_v6.out.below b_v7 R_v6.out.lt)
    have G_v7 := Lib.hid (G_v6.out.below b_v7 G_v6.out.lt)
    have C_v7 := Lib.hid (Vo.keep (w' := v7) (S' := fun i => i < v7.heap.size ∧ w.heap.size + 3 ≤ i ∧ i ≠ v2.heap.size) C_v6.out (fun i hi => b_v7.block i hi.1) (fun i hi => ⟨Nat.lt_of_lt_of_le hi.1 b_v7.size, hi.2⟩))
    have D_v7 := Lib.hid (Vo.keep (w' := v7) (S' := fun i => i < v7.heap.size ∧ w.heap.size + 3 ≤ i ∧ i ≠ v2.heap.size) D_v6.out (fun i hi => b_v7.block i hi.1) (fun i hi => ⟨Nat.lt_of_lt_of_le hi.1 b_v7.size, hi.2⟩))
    have E_v7 := Lib.hid vo2
    clear vo2
    go_wp2_with fail
    refine hK.out _ _ (⟨trivial, six_ V_v7.out, six_ X_v7.out⟩) (fun hHeld => ?_)
    clear hK K
    try simp only [Act.put, List.setIfInBounds_toArray, List.set_cons_zero, List.set_cons_succ]
    refine wpAnyL_ready (rs := [7]) (by kernel_rfl) (by simp) ?_
    refine AllReadyL.late (o := { dst := none, op := .store 25 (.tmp 9) (.tmp 31), type := 0, pos := "value.go:256", after := #[{ on := 6, ground := .data }, { on := 5, ground := .data }, { on := 5, ground := .chain }, { on := 0, ground := .phase }, { on := 1, ground := .phase }, { on := 2, ground := .phase }, { on := 3, ground := .phase }, { on := 4, ground := .phase }, { on := 5, ground := .phase }, { on := 6, ground := .phase }], guard := none }) rfl (by kernel_rfl) (fun K hK => ?_) AllReadyL.nil
    have s0 : v7.cell? ⟨v2.heap.size, 0, none⟩ = some (.int .i64 0) := G_v7.out.cell 0
    have s_0 := G_v7.out.free 0
    have s1 : v7.cell? ⟨v2.heap.size, 1, none⟩ = some (.int .i64 0) := G_v7.out.cell 1
    have s_1 := G_v7.out.free 1
    have s2 : v7.cell? ⟨v2.heap.size, 2, none⟩ = some (.int .i64 0) := G_v7.out.cell 2
    have s_2 := G_v7.out.free 2
    have s3 : v7.cell? ⟨v2.heap.size, 3, none⟩ = some (.string ⟨#[]⟩) := G_v7.out.cell 3
    have s_3 := G_v7.out.free 3
    have s4 : v7.cell? ⟨v2.heap.size, 4, none⟩ = some (.slice none 0 0) := G_v7.out.cell 4
    have s_4 := G_v7.out.free 4
    have s5 : v7.cell? ⟨v2.heap.size, 5, none⟩ = some (.slice none 0 0) := G_v7.out.cell 5
    have s_5 := G_v7.out.free 5
    go_simp
    obtain ⟨v8, h_v8⟩ : ∃ v, ((((((v7.setCell ⟨v2.heap.size, 0, none⟩ (.int .i64 NN.kind)).setCell ⟨v2.heap.size, 1, none⟩ (.int .i64 NN.int)).setCell ⟨v2.heap.size, 2, none⟩ (.int .i64 NN.scale)).setCell ⟨v2.heap.size, 3, none⟩ (.string (str NN.text))).setCell ⟨v2.heap.size, 4, none⟩ (.slice Fn NN.names.length hn)).setCell ⟨v2.heap.size, 5, none⟩ (.slice Fk KK.len hk)) = v := ⟨_, rfl⟩
    rw [h_v8]
    clear s0 s_0 s1 s_1 s2 s_2 s3 s_3 s4 s_4 s5 s_5
    have B_v8 : Hid (Below w.heap.size w v8) := by show Below _ _ _; rw [← h_v8]; exact below_six B_v7.out (by omega)
    have G_v8 : Hid (Blk v8 v2.heap.size #[.int .i64 NN.kind, .int .i64 NN.int, .int .i64 NN.scale, .string (str NN.text), .slice Fn NN.names.length hn, .slice Fk KK.len hk] 25) := by show Blk _ _ _ _; rw [← h_v8]; exact Blk.put6 G_v7.out
    have V_v8 := Lib.hid (show Blk v8 _ _ _ from by rw [← h_v8]; exact Blk.six_other V_v7.out (by omega))
    have X_v8 := Lib.hid (show Blk v8 _ _ _ from by rw [← h_v8]; exact Blk.six_other X_v7.out (by omega))
    have R_v8 := Lib.hid (show Blk v8 _ _ _ from by rw [← h_v8]; exact Blk.six_other R_v7.out (by omega))
    have FIN : With10 w NN KK (.pointer (some ⟨v2.heap.size, 0, none⟩)) v8 := ⟨v2.heap.size, Fn, hn, Fk, hk, rfl, hg, B_v8.out, G_v8.out, R_v8.out, by rw [← h_v8]; exact vo_six E_v7.out (fun i hi => hi.2.2) (fun i hi => ⟨by simpa using hi.1, hi.2.1⟩)⟩
    clear h_v8
    refine hK.out _ _ (⟨six_ V_v8.out, six_ X_v8.out⟩) (fun hHeld => ?_)
    clear hK K
    try simp only [Act.put, List.setIfInBounds_toArray, List.set_cons_zero, List.set_cons_succ]
    refine wpAnyL_done (by kernel_rfl) ?_ _
    rotate_left 1
    refine AllReadyL.cons (o := { dst := some 9, op := .alloc 25, type := 0, pos := "value.go:256", after := #[], guard := none }) rfl (fun K hK => ?_) AllReadyL.nil
    go_simp
    obtain ⟨v9, h_v9⟩ : ∃ v, v1.alloc (.cells #[.int .i64 0, .int .i64 0, .int .i64 0, .string ⟨#[]⟩, .slice none 0 0, .slice none 0 0] 25) = v := ⟨_, rfl⟩
    rw [h_v9]
    have b_v9 : Below v1.heap.size v1 v9 := by rw [← h_v9]; exact (Below.refl _ _).alloc (Nat.le_refl _) _
    have B_v9 : Hid (Below w.heap.size w v9) := B_v1.out.trans (b_v9.mono B_v1.out.size)
    have z_v9 : v1.heap.size ≤ v9.heap.size := b_v9.size
    have V_v9 := Lib.hid (V_v1.out.below b_v9 V_v1.out.lt)
    have X_v9 := Lib.hid (X_v1.out.below b_v9 X_v1.out.lt)
    have R_v9 := Lib.hid (R_v1.out.below b_v9 R_v1.out.lt)
    have C_v9 := Lib.hid (Vo.keep (w' := v9) (S' := fun i => i < v9.heap.size ∧ w.heap.size + 3 ≤ i ∧ i ≠ v1.heap.size) C_v1.out (fun i hi => b_v9.block i hi.1) (fun i hi => ⟨Nat.lt_of_lt_of_le hi.1 b_v9.size, hi.2, by have := hi.1; omega⟩))
    have G_v9 : Hid (Blk v9 v1.heap.size #[.int .i64 0, .int .i64 0, .int .i64 0, .string ⟨#[]⟩, .slice none 0 0, .slice none 0 0] 25) := by show Blk _ _ _ _; rw [← h_v9]; exact Blk.new _ _ _
    have hg : w.heap.size + 2 < v1.heap.size := R_v1.out.lt
    clear h_v9
    refine hK.out _ _ (⟨trivial, six_ V_v9.out, six_ X_v9.out⟩) (fun hHeld => ?_)
    clear hK K
    try simp only [Act.put, List.setIfInBounds_toArray, List.set_cons_zero, List.set_cons_succ]
    refine wpAnyL_ready (rs := [4]) (by kernel_rfl) (by simp) ?_
    refine AllReadyL.cons (o := { dst := some 30, op := .call { callee := .value (.func 8), args := #[.tmp 29], argTypes := #[25] }, type := 25, pos := "value.go:256", after := #[{ on := 3, ground := .data }, { on := 1, ground := .chain }], guard := none }) rfl (fun K hK => ?_) AllReadyL.nil
    go_simp
    refine ((unhide HO2) v9 (HV1.out.upto B_v9.out)).mono ?_
    rintro e v10 ⟨vv, rfl, vo_v10, b_v10⟩
    have vo2 := vo_v10.keep (w' := v10) (S' := fun i => i < v10.heap.size ∧ w.heap.size + 3 ≤ i ∧ i ≠ v1.heap.size) (fun _ _ => rfl) (fun i hi => ⟨hi.2, by have := hi.1; have := R_v9.out.lt; omega, by have := hi.1; have := G_v9.out.lt; omega⟩)
    clear vo_v10
    obtain ⟨Dn, fn, Dk, fk, rfl, _, _, _, _, _⟩ := id vo2
    unfold ncells at vo2
    unfold ncells
    have B_v10 : Hid (Below w.heap.size w v10) := B_v9.out.trans (b_v10.mono B_v9.out.size)
    have z_v10 : v9.heap.size ≤ v10.heap.size := b_v10.size
    have V_v10 := Lib.hid (V_v9.out.below b_v10 V_v9.out.lt)
    have X_v10 := Lib.hid (X_v9.out.below b_v10 X_v9.out.lt)
    have R_v10 := Lib.hid (R_v9.out.below b_v10 R_v9.out.lt)
    have G_v10 := Lib.hid (G_v9.out.below b_v10 G_v9.out.lt)
    have C_v10 := Lib.hid (Vo.keep (w' := v10) (S' := fun i => i < v10.heap.size ∧ w.heap.size + 3 ≤ i ∧ i ≠ v1.heap.size) C_v9.out (fun i hi => b_v10.block i hi.1) (fun i hi => ⟨Nat.lt_of_lt_of_le hi.1 b_v10.size, hi.2⟩))
    have D_v10 := Lib.hid vo2
    clear vo2
    go_wp2_with fail
    refine hK.out _ _ (⟨trivial, six_ V_v10.out, six_ X_v10.out⟩) (fun hHeld => ?_)
    clear hK K
    try simp only [Act.put, List.setIfInBounds_toArray, List.set_cons_zero, List.set_cons_succ]
    refine wpAnyL_ready (rs := [5]) (by kernel_rfl) (by simp) ?_
    refine AllReadyL.cons (o := { dst := some 31, op := .call { callee := .value (.func 37), args := #[.tmp 27, .tmp 28, .tmp 30], argTypes := #[25, 9, 25] }, type := 25, pos := "value.go:256", after := #[{ on := 1, ground := .data }, { on := 2, ground := .data }, { on := 4, ground := .data }, { on := 4, ground := .chain }], guard := none }) rfl (fun K hK => ?_) AllReadyL.nil
    go_simp
    refine ((unhide HLAY) v10 _ _ _ C_v10.out D_v10.out (fun b hb => hb.1)).mono ?_
    rintro e v11 ⟨vv, rfl, vo_v11, b_v11⟩
    have vo2 := vo_v11.keep (w' := v11) (S' := fun i => i < v11.heap.size ∧ w.heap.size + 3 ≤ i ∧ i ≠ v1.heap.size) (fun _ _ => rfl) (fun i hi => ⟨hi.1, by
      rcases hi.2 with h | h
      · exact h.2.1
      · have := R_v10.out.lt; omega, by
      rcases hi.2 with h | h
      · exact h.2.2
      · have := G_v10.out.lt; omega⟩)
    clear vo_v11
    obtain ⟨Fn, hn, Fk, hk, rfl, _, _, _, _, _⟩ := id vo2
    unfold ncells at vo2
    unfold ncells
    have B_v11 : Hid (Below w.heap.size w v11) := B_v10.out.trans (b_v11.mono B_v10.out.size)
    have z_v11 : v10.heap.size ≤ v11.heap.size := b_v11.size
    have V_v11 := Lib.hid (V_v10.out.below b_v11 V_v10.out.lt)
    have X_v11 := Lib.hid (X_v10.out.below b_v11 X_v10.out.lt)
    have R_v11 := Lib.hid (R_v10.out.below b_v11 R_v10.out.lt)
    have G_v11 := Lib.hid (G_v10.out.below b_v11 G_v10.out.lt)
    have C_v11 := Lib.hid (Vo.keep (w' := v11) (S' := fun i => i < v11.heap.size ∧ w.heap.size + 3 ≤ i ∧ i ≠ v1.heap.size) C_v10.out (fun i hi => b_v11.block i hi.1) (fun i hi => ⟨Nat.lt_of_lt_of_le hi.1 b_v11.size, hi.2⟩))
    have D_v11 := Lib.hid (Vo.keep (w' := v11) (S' := fun i => i < v11.heap.size ∧ w.heap.size + 3 ≤ i ∧ i ≠ v1.heap.size) D_v10.out (fun i hi => b_v11.block i hi.1) (fun i hi => ⟨Nat.lt_of_lt_of_le hi.1 b_v11.size, hi.2⟩))
    have E_v11 := Lib.hid vo2
    clear vo2
    go_wp2_with fail
    refine hK.out _ _ (⟨trivial, six_ V_v11.out, six_ X_v11.out⟩) (fun hHeld => ?_)
    clear hK K
    try simp only [Act.put, List.setIfInBounds_toArray, List.set_cons_zero, List.set_cons_succ]
    refine wpAnyL_ready (rs := [7]) (by kernel_rfl) (by simp) ?_
    refine AllReadyL.late (o := { dst := none, op := .store 25 (.tmp 9) (.tmp 31), type := 0, pos := "value.go:256", after := #[{ on := 6, ground := .data }, { on := 5, ground := .data }, { on := 5, ground := .chain }, { on := 0, ground := .phase }, { on := 1, ground := .phase }, { on := 2, ground := .phase }, { on := 3, ground := .phase }, { on := 4, ground := .phase }, { on := 5, ground := .phase }, { on := 6, ground := .phase }], guard := none }) rfl (by kernel_rfl) (fun K hK => ?_) AllReadyL.nil
    have s0 : v11.cell? ⟨v1.heap.size, 0, none⟩ = some (.int .i64 0) := G_v11.out.cell 0
    have s_0 := G_v11.out.free 0
    have s1 : v11.cell? ⟨v1.heap.size, 1, none⟩ = some (.int .i64 0) := G_v11.out.cell 1
    have s_1 := G_v11.out.free 1
    have s2 : v11.cell? ⟨v1.heap.size, 2, none⟩ = some (.int .i64 0) := G_v11.out.cell 2
    have s_2 := G_v11.out.free 2
    have s3 : v11.cell? ⟨v1.heap.size, 3, none⟩ = some (.string ⟨#[]⟩) := G_v11.out.cell 3
    have s_3 := G_v11.out.free 3
    have s4 : v11.cell? ⟨v1.heap.size, 4, none⟩ = some (.slice none 0 0) := G_v11.out.cell 4
    have s_4 := G_v11.out.free 4
    have s5 : v11.cell? ⟨v1.heap.size, 5, none⟩ = some (.slice none 0 0) := G_v11.out.cell 5
    have s_5 := G_v11.out.free 5
    go_simp
    obtain ⟨v12, h_v12⟩ : ∃ v, ((((((v11.setCell ⟨v1.heap.size, 0, none⟩ (.int .i64 NN.kind)).setCell ⟨v1.heap.size, 1, none⟩ (.int .i64 NN.int)).setCell ⟨v1.heap.size, 2, none⟩ (.int .i64 NN.scale)).setCell ⟨v1.heap.size, 3, none⟩ (.string (str NN.text))).setCell ⟨v1.heap.size, 4, none⟩ (.slice Fn NN.names.length hn)).setCell ⟨v1.heap.size, 5, none⟩ (.slice Fk KK.len hk)) = v := ⟨_, rfl⟩
    rw [h_v12]
    clear s0 s_0 s1 s_1 s2 s_2 s3 s_3 s4 s_4 s5 s_5
    have B_v12 : Hid (Below w.heap.size w v12) := by show Below _ _ _; rw [← h_v12]; exact below_six B_v11.out (by omega)
    have G_v12 : Hid (Blk v12 v1.heap.size #[.int .i64 NN.kind, .int .i64 NN.int, .int .i64 NN.scale, .string (str NN.text), .slice Fn NN.names.length hn, .slice Fk KK.len hk] 25) := by show Blk _ _ _ _; rw [← h_v12]; exact Blk.put6 G_v11.out
    have V_v12 := Lib.hid (show Blk v12 _ _ _ from by rw [← h_v12]; exact Blk.six_other V_v11.out (by omega))
    have X_v12 := Lib.hid (show Blk v12 _ _ _ from by rw [← h_v12]; exact Blk.six_other X_v11.out (by omega))
    have R_v12 := Lib.hid (show Blk v12 _ _ _ from by rw [← h_v12]; exact Blk.six_other R_v11.out (by omega))
    have FIN : With10 w NN KK (.pointer (some ⟨v1.heap.size, 0, none⟩)) v12 := ⟨v1.heap.size, Fn, hn, Fk, hk, rfl, hg, B_v12.out, G_v12.out, R_v12.out, by rw [← h_v12]; exact vo_six E_v11.out (fun i hi => hi.2.2) (fun i hi => ⟨by simpa using hi.1, hi.2.1⟩)⟩
    clear h_v12
    refine hK.out _ _ (⟨six_ V_v12.out, six_ X_v12.out⟩) (fun hHeld => ?_)
    clear hK K
    try simp only [Act.put, List.setIfInBounds_toArray, List.set_cons_zero, List.set_cons_succ]
    refine wpAnyL_done (by kernel_rfl) ?_ _
    rotate_left 1
    refine AllReadyL.cons (o := { dst := some 9, op := .alloc 25, type := 0, pos := "value.go:256", after := #[], guard := none }) rfl (fun K hK => ?_) AllReadyL.nil
    go_simp
    obtain ⟨v13, h_v13⟩ : ∃ v, v0.alloc (.cells #[.int .i64 0, .int .i64 0, .int .i64 0, .string ⟨#[]⟩, .slice none 0 0, .slice none 0 0] 25) = v := ⟨_, rfl⟩
    rw [h_v13]
    have b_v13 : Below v0.heap.size v0 v13 := by rw [← h_v13]; exact (Below.refl _ _).alloc (Nat.le_refl _) _
    have B_v13 : Hid (Below w.heap.size w v13) := B_v0.out.trans (b_v13.mono B_v0.out.size)
    have z_v13 : v0.heap.size ≤ v13.heap.size := b_v13.size
    have V_v13 := Lib.hid (V_v0.out.below b_v13 V_v0.out.lt)
    have X_v13 := Lib.hid (X_v0.out.below b_v13 X_v0.out.lt)
    have R_v13 := Lib.hid (R_v0.out.below b_v13 R_v0.out.lt)
    have G_v13 : Hid (Blk v13 v0.heap.size #[.int .i64 0, .int .i64 0, .int .i64 0, .string ⟨#[]⟩, .slice none 0 0, .slice none 0 0] 25) := by show Blk _ _ _ _; rw [← h_v13]; exact Blk.new _ _ _
    have hg : w.heap.size + 2 < v0.heap.size := R_v0.out.lt
    clear h_v13
    refine hK.out _ _ (⟨trivial, six_ V_v13.out, six_ X_v13.out⟩) (fun hHeld => ?_)
    clear hK K
    try simp only [Act.put, List.setIfInBounds_toArray, List.set_cons_zero, List.set_cons_succ]
    refine wpAnyL_ready (rs := [1]) (by kernel_rfl) (by simp) ?_
    refine AllReadyL.cons (o := { dst := some 27, op := .call { callee := .value (.func 8), args := #[.tmp 26], argTypes := #[25] }, type := 25, pos := "value.go:256", after := #[{ on := 0, ground := .data }], guard := none }) rfl (fun K hK => ?_) AllReadyL.nil
    go_simp
    refine ((unhide HO1) v13 (HV0.out.upto B_v13.out)).mono ?_
    rintro e v14 ⟨vv, rfl, vo_v14, b_v14⟩
    have vo2 := vo_v14.keep (w' := v14) (S' := fun i => i < v14.heap.size ∧ w.heap.size + 3 ≤ i ∧ i ≠ v0.heap.size) (fun _ _ => rfl) (fun i hi => ⟨hi.2, by have := hi.1; have := R_v13.out.lt; omega, by have := hi.1; have := G_v13.out.lt; omega⟩)
    clear vo_v14
    obtain ⟨Cn, en, Ck, ek, rfl, _, _, _, _, _⟩ := id vo2
    unfold ncells at vo2
    unfold ncells
    have B_v14 : Hid (Below w.heap.size w v14) := B_v13.out.trans (b_v14.mono B_v13.out.size)
    have z_v14 : v13.heap.size ≤ v14.heap.size := b_v14.size
    have V_v14 := Lib.hid (V_v13.out.below b_v14 V_v13.out.lt)
    have X_v14 := Lib.hid (X_v13.out.below b_v14 X_v13.out.lt)
    have R_v14 := Lib.hid (R_v13.out.below b_v14 R_v13.out.lt)
    have G_v14 := Lib.hid (G_v13.out.below b_v14 G_v13.out.lt)
    have C_v14 := Lib.hid vo2
    clear vo2
    go_wp2_with fail
    refine hK.out _ _ (⟨trivial, six_ V_v14.out, six_ X_v14.out⟩) (fun hHeld => ?_)
    clear hK K
    try simp only [Act.put, List.setIfInBounds_toArray, List.set_cons_zero, List.set_cons_succ]
    refine wpAnyL_ready (rs := [4]) (by kernel_rfl) (by simp) ?_
    refine AllReadyL.cons (o := { dst := some 30, op := .call { callee := .value (.func 8), args := #[.tmp 29], argTypes := #[25] }, type := 25, pos := "value.go:256", after := #[{ on := 3, ground := .data }, { on := 1, ground := .chain }], guard := none }) rfl (fun K hK => ?_) AllReadyL.nil
    go_simp
    refine ((unhide HO2) v14 (HV1.out.upto B_v14.out)).mono ?_
    rintro e v15 ⟨vv, rfl, vo_v15, b_v15⟩
    have vo2 := vo_v15.keep (w' := v15) (S' := fun i => i < v15.heap.size ∧ w.heap.size + 3 ≤ i ∧ i ≠ v0.heap.size) (fun _ _ => rfl) (fun i hi => ⟨hi.2, by have := hi.1; have := R_v14.out.lt; omega, by have := hi.1; have := G_v14.out.lt; omega⟩)
    clear vo_v15
    obtain ⟨Dn, fn, Dk, fk, rfl, _, _, _, _, _⟩ := id vo2
    unfold ncells at vo2
    unfold ncells
    have B_v15 : Hid (Below w.heap.size w v15) := B_v14.out.trans (b_v15.mono B_v14.out.size)
    have z_v15 : v14.heap.size ≤ v15.heap.size := b_v15.size
    have V_v15 := Lib.hid (V_v14.out.below b_v15 V_v14.out.lt)
    have X_v15 := Lib.hid (X_v14.out.below b_v15 X_v14.out.lt)
    have R_v15 := Lib.hid (R_v14.out.below b_v15 R_v14.out.lt)
    have G_v15 := Lib.hid (G_v14.out.below b_v15 G_v14.out.lt)
    have C_v15 := Lib.hid (Vo.keep (w' := v15) (S' := fun i => i < v15.heap.size ∧ w.heap.size + 3 ≤ i ∧ i ≠ v0.heap.size) C_v14.out (fun i hi => b_v15.block i hi.1) (fun i hi => ⟨Nat.lt_of_lt_of_le hi.1 b_v15.size, hi.2⟩))
    have D_v15 := Lib.hid vo2
    clear vo2
    go_wp2_with fail
    refine hK.out _ _ (⟨trivial, six_ V_v15.out, six_ X_v15.out⟩) (fun hHeld => ?_)
    clear hK K
    try simp only [Act.put, List.setIfInBounds_toArray, List.set_cons_zero, List.set_cons_succ]
    refine wpAnyL_ready (rs := [5]) (by kernel_rfl) (by simp) ?_
    refine AllReadyL.cons (o := { dst := some 31, op := .call { callee := .value (.func 37), args := #[.tmp 27, .tmp 28, .tmp 30], argTypes := #[25, 9, 25] }, type := 25, pos := "value.go:256", after := #[{ on := 1, ground := .data }, { on := 2, ground := .data }, { on := 4, ground := .data }, { on := 4, ground := .chain }], guard := none }) rfl (fun K hK => ?_) AllReadyL.nil
    go_simp
    refine ((unhide HLAY) v15 _ _ _ C_v15.out D_v15.out (fun b hb => hb.1)).mono ?_
    rintro e v16 ⟨vv, rfl, vo_v16, b_v16⟩
    have vo2 := vo_v16.keep (w' := v16) (S' := fun i => i < v16.heap.size ∧ w.heap.size + 3 ≤ i ∧ i ≠ v0.heap.size) (fun _ _ => rfl) (fun i hi => ⟨hi.1, by
      rcases hi.2 with h | h
      · exact h.2.1
      · have := R_v15.out.lt; omega, by
      rcases hi.2 with h | h
      · exact h.2.2
      · have := G_v15.out.lt; omega⟩)
    clear vo_v16
    obtain ⟨Fn, hn, Fk, hk, rfl, _, _, _, _, _⟩ := id vo2
    unfold ncells at vo2
    unfold ncells
    have B_v16 : Hid (Below w.heap.size w v16) := B_v15.out.trans (b_v16.mono B_v15.out.size)
    have z_v16 : v15.heap.size ≤ v16.heap.size := b_v16.size
    have V_v16 := Lib.hid (V_v15.out.below b_v16 V_v15.out.lt)
    have X_v16 := Lib.hid (X_v15.out.below b_v16 X_v15.out.lt)
    have R_v16 := Lib.hid (R_v15.out.below b_v16 R_v15.out.lt)
    have G_v16 := Lib.hid (G_v15.out.below b_v16 G_v15.out.lt)
    have C_v16 := Lib.hid (Vo.keep (w' := v16) (S' := fun i => i < v16.heap.size ∧ w.heap.size + 3 ≤ i ∧ i ≠ v0.heap.size) C_v15.out (fun i hi => b_v16.block i hi.1) (fun i hi => ⟨Nat.lt_of_lt_of_le hi.1 b_v16.size, hi.2⟩))
    have D_v16 := Lib.hid (Vo.keep (w' := v16) (S' := fun i => i < v16.heap.size ∧ w.heap.size + 3 ≤ i ∧ i ≠ v0.heap.size) D_v15.out (fun i hi => b_v16.block i hi.1) (fun i hi => ⟨Nat.lt_of_lt_of_le hi.1 b_v16.size, hi.2⟩))
    have E_v16 := Lib.hid vo2
    clear vo2
    go_wp2_with fail
    refine hK.out _ _ (⟨trivial, six_ V_v16.out, six_ X_v16.out⟩) (fun hHeld => ?_)
    clear hK K
    try simp only [Act.put, List.setIfInBounds_toArray, List.set_cons_zero, List.set_cons_succ]
    refine wpAnyL_ready (rs := [7]) (by kernel_rfl) (by simp) ?_
    refine AllReadyL.late (o := { dst := none, op := .store 25 (.tmp 9) (.tmp 31), type := 0, pos := "value.go:256", after := #[{ on := 6, ground := .data }, { on := 5, ground := .data }, { on := 5, ground := .chain }, { on := 0, ground := .phase }, { on := 1, ground := .phase }, { on := 2, ground := .phase }, { on := 3, ground := .phase }, { on := 4, ground := .phase }, { on := 5, ground := .phase }, { on := 6, ground := .phase }], guard := none }) rfl (by kernel_rfl) (fun K hK => ?_) AllReadyL.nil
    have s0 : v16.cell? ⟨v0.heap.size, 0, none⟩ = some (.int .i64 0) := G_v16.out.cell 0
    have s_0 := G_v16.out.free 0
    have s1 : v16.cell? ⟨v0.heap.size, 1, none⟩ = some (.int .i64 0) := G_v16.out.cell 1
    have s_1 := G_v16.out.free 1
    have s2 : v16.cell? ⟨v0.heap.size, 2, none⟩ = some (.int .i64 0) := G_v16.out.cell 2
    have s_2 := G_v16.out.free 2
    have s3 : v16.cell? ⟨v0.heap.size, 3, none⟩ = some (.string ⟨#[]⟩) := G_v16.out.cell 3
    have s_3 := G_v16.out.free 3
    have s4 : v16.cell? ⟨v0.heap.size, 4, none⟩ = some (.slice none 0 0) := G_v16.out.cell 4
    have s_4 := G_v16.out.free 4
    have s5 : v16.cell? ⟨v0.heap.size, 5, none⟩ = some (.slice none 0 0) := G_v16.out.cell 5
    have s_5 := G_v16.out.free 5
    go_simp
    obtain ⟨v17, h_v17⟩ : ∃ v, ((((((v16.setCell ⟨v0.heap.size, 0, none⟩ (.int .i64 NN.kind)).setCell ⟨v0.heap.size, 1, none⟩ (.int .i64 NN.int)).setCell ⟨v0.heap.size, 2, none⟩ (.int .i64 NN.scale)).setCell ⟨v0.heap.size, 3, none⟩ (.string (str NN.text))).setCell ⟨v0.heap.size, 4, none⟩ (.slice Fn NN.names.length hn)).setCell ⟨v0.heap.size, 5, none⟩ (.slice Fk KK.len hk)) = v := ⟨_, rfl⟩
    rw [h_v17]
    clear s0 s_0 s1 s_1 s2 s_2 s3 s_3 s4 s_4 s5 s_5
    have B_v17 : Hid (Below w.heap.size w v17) := by show Below _ _ _; rw [← h_v17]; exact below_six B_v16.out (by omega)
    have G_v17 : Hid (Blk v17 v0.heap.size #[.int .i64 NN.kind, .int .i64 NN.int, .int .i64 NN.scale, .string (str NN.text), .slice Fn NN.names.length hn, .slice Fk KK.len hk] 25) := by show Blk _ _ _ _; rw [← h_v17]; exact Blk.put6 G_v16.out
    have V_v17 := Lib.hid (show Blk v17 _ _ _ from by rw [← h_v17]; exact Blk.six_other V_v16.out (by omega))
    have X_v17 := Lib.hid (show Blk v17 _ _ _ from by rw [← h_v17]; exact Blk.six_other X_v16.out (by omega))
    have R_v17 := Lib.hid (show Blk v17 _ _ _ from by rw [← h_v17]; exact Blk.six_other R_v16.out (by omega))
    have FIN : With10 w NN KK (.pointer (some ⟨v0.heap.size, 0, none⟩)) v17 := ⟨v0.heap.size, Fn, hn, Fk, hk, rfl, hg, B_v17.out, G_v17.out, R_v17.out, by rw [← h_v17]; exact vo_six E_v16.out (fun i hi => hi.2.2) (fun i hi => ⟨by simpa using hi.1, hi.2.1⟩)⟩
    clear h_v17
    refine hK.out _ _ (⟨six_ V_v17.out, six_ X_v17.out⟩) (fun hHeld => ?_)
    clear hK K
    try simp only [Act.put, List.setIfInBounds_toArray, List.set_cons_zero, List.set_cons_succ]
    refine wpAnyL_done (by kernel_rfl) ?_ _
    all_goals (
      go_wp2_with fail
      go_meet
      exact FIN)
  case rest =>
    clear B_w4 V_w4 X_w4 R_w4 HC1 HC2 HO1 HO2 HLAY HV0 HV1 hs1 H9 HOK
    obtain ⟨g, Fn, hn, Fk, hk, rfl, hg3, Bf, Gf, Rf, Vf⟩ := hcut
    unfold ncells at Gf Vf
    have BF := Lib.hid Bf
    have GF := Lib.hid Gf
    have RF := Lib.hid Rf
    have VF := Lib.hid Vf
    clear Bf Gf Rf Vf
    have HC : Hid (Calls Try.prog 12 #[.agg #[.int .i64 NN.kind, .int .i64 NN.int, .int .i64 NN.scale, .string (str NN.text), .slice Fn NN.names.length hn, .slice Fk KK.len hk]] wc (Ret (.int .i64 (chk NN KK 1 : Int)) wc)) := RCheck_any NN KK _ wc (VF.out.keep (fun _ _ => rfl) (fun i hi => hi.1))
    have x0 : wc.cell? ⟨g, 0, none⟩ = some (.int .i64 NN.kind) := GF.out.cell 0
    have x1 : wc.cell? ⟨g, 1, none⟩ = some (.int .i64 NN.int) := GF.out.cell 1
    have x2 : wc.cell? ⟨g, 2, none⟩ = some (.int .i64 NN.scale) := GF.out.cell 2
    have x3 : wc.cell? ⟨g, 3, none⟩ = some (.string (str NN.text)) := GF.out.cell 3
    have x4 : wc.cell? ⟨g, 4, none⟩ = some (.slice Fn NN.names.length hn) := GF.out.cell 4
    have x5 : wc.cell? ⟨g, 5, none⟩ = some (.slice Fk KK.len hk) := GF.out.cell 5
    generalize chk NN KK 1 = C at *
    go_wp2_with fail
    refine HC.out.mono ?_
    rintro e wg ⟨rfl, bg⟩
    clear x0 x1 x2 x3 x4 x5
    have BG := Lib.hid (BF.out.trans (bg.mono BF.out.size))
    have GG := Lib.hid (GF.out.below bg GF.out.lt)
    have RG := Lib.hid (RF.out.below bg RF.out.lt)
    have VG := Lib.hid (VF.out.keep (w' := wg) (S' := fun i => i < wg.heap.size ∧ w.heap.size + 3 ≤ i) (fun i hi => bg.block i hi.1) (fun i hi => ⟨Nat.lt_of_lt_of_le hi.1 bg.size, hi.2⟩))
    clear bg HC BF GF RF VF
    have r0 : wg.cell? ⟨(w.heap.size + 2), 0, none⟩ = some (.int .i64 0) := RG.out.cell 0
    have r1 : wg.cell? ⟨(w.heap.size + 2), 1, none⟩ = some (.int .i64 0) := RG.out.cell 1
    have r2 : wg.cell? ⟨(w.heap.size + 2), 2, none⟩ = some (.int .i64 0) := RG.out.cell 2
    have r3 : wg.cell? ⟨(w.heap.size + 2), 3, none⟩ = some (.string ⟨#[]⟩) := RG.out.cell 3
    have r4 : wg.cell? ⟨(w.heap.size + 2), 4, none⟩ = some (.slice none 0 0) := RG.out.cell 4
    have r5 : wg.cell? ⟨(w.heap.size + 2), 5, none⟩ = some (.slice none 0 0) := RG.out.cell 5
    have r_0 := RG.out.free 0
    have r_1 := RG.out.free 1
    have r_2 := RG.out.free 2
    have r_3 := RG.out.free 3
    have r_4 := RG.out.free 4
    have r_5 := RG.out.free 5
    by_cases hC : C = 0
    · subst hC
      have HRES := HRES.out
      rw [if_neg (by omega)] at HRES
      have HRES := Lib.hid HRES
      have x0 : wg.cell? ⟨g, 0, none⟩ = some (.int .i64 NN.kind) := GG.out.cell 0
      have x1 : wg.cell? ⟨g, 1, none⟩ = some (.int .i64 NN.int) := GG.out.cell 1
      have x2 : wg.cell? ⟨g, 2, none⟩ = some (.int .i64 NN.scale) := GG.out.cell 2
      have x3 : wg.cell? ⟨g, 3, none⟩ = some (.string (str NN.text)) := GG.out.cell 3
      have x4 : wg.cell? ⟨g, 4, none⟩ = some (.slice Fn NN.names.length hn) := GG.out.cell 4
      have x5 : wg.cell? ⟨g, 5, none⟩ = some (.slice Fk KK.len hk) := GG.out.cell 5
      go_wp2_with fail
      refine bodyPost_ret (results_vb Try.results22 rfl rfl (Blk.put6 RG.out)) rfl ?_
      rw [HRES.out]
      exact ⟨_, rfl, vo_six VG.out (fun i hi => by have := hi.2; omega) (fun i hi => by simpa using hi.1), below_six BG.out (by omega)⟩
    · have HRES := HRES.out
      rw [if_pos hC] at HRES
      have HRES := Lib.hid HRES
      have q1 : ((C : Int) == 0) = false := by rw [beq_eq_false_iff_ne]; omega
      clear hC
      go_wp2_with fail
      refine bodyPost_ret (results_vb Try.results22 rfl rfl (Blk.put6 RG.out)) rfl ?_
      rw [HRES.out]
      exact ⟨_, rfl, rzero_vo _ _, below_six BG.out (by omega)⟩
end Go.Proofs.Ytfcbcbpnlnkpcaa

/- decimal.Neg, scrivenerref6.Neg. (Printed by gen/dnegs.py.) -/
import Derived.Test.YtfcbcbpnlnkpcaaDoorQRNeg
namespace Go.Proofs.YtfcbcbpnlnkpcaaDoor
set_option linter.all false
open Go.RowKit
def nilN : Nd := ⟨3, 0, 0, [], []⟩
theorem nilN_num : isNum nilN := ⟨rfl, rfl, ⟨by decide, by decide⟩, .inl ⟨rfl, rfl⟩⟩
def negR (n : Nd) (k : F) : Nd × Int := subR nilN .nil n k
theorem negR_plain (n : Nd) (k : F) : plainN (negR n k).1 := subR_plain _ _ _ _
theorem negR_num {n : Nd} (hn : isNum n) : negR n .nil = lsR (-n.int) n.scale.toNat := by
  unfold negR
  rw [subR_num nilN_num hn, show vN nilN = 0 from rfl, Int.zero_sub]
  unfold lsR
  rw [leastP_up (M := -n.int) (hn.scale_le).2.2, Int.neg_mul]
  rfl
theorem negR_not {n : Nd} {k : F} (h : numB n k = false) : negR n k = (zN, 11) := by
  unfold negR subR
  rw [h, Bool.and_false]
  rfl

set_option maxRecDepth 100000 in
set_option maxHeartbeats 12800000 in
theorem neg6_any (n : Nd) (k : F) (v : Value) (w : World) (hv : Vo w (· < w.heap.size) n k v) :
    Calls Tryd.prog 24 #[v] w (Ret (vans (negR n k)) w) := by
  obtain ⟨An, cAn, Ak, cAk, rfl, hok0, _, _, _, _⟩ := id hv
  have ST00 : St w [⟨w.heap.size, n, k, An, cAn, Ak, cAk⟩] (w.alloc (.cells #[.int .i64 n.kind, .int .i64 n.int, .int .i64 n.scale, .string (str n.text), .slice An n.names.length cAn, .slice Ak k.len cAk] 25)) := by
    have := (St.box_new (St.nil w) hv)
    simpa [ncells, Nat.add_assoc] using this
  have R00 : Blk ((w.alloc (.cells #[.int .i64 n.kind, .int .i64 n.int, .int .i64 n.scale, .string (str n.text), .slice An n.names.length cAn, .slice Ak k.len cAk] 25)).alloc (.cells #[.int .i64 0, .int .i64 0, .int .i64 0, .string ⟨#[]⟩, .slice none 0 0, .slice none 0 0] 25)) (w.heap.size + 1) #[.int .i64 0, .int .i64 0, .int .i64 0, .string ⟨#[]⟩, .slice none 0 0, .slice none 0 0] 25 := by
    have := Blk.new (w.alloc (.cells #[.int .i64 n.kind, .int .i64 n.int, .int .i64 n.scale, .string (str n.text), .slice An n.names.length cAn, .slice Ak k.len cAk] 25)) #[.int .i64 0, .int .i64 0, .int .i64 0, .string ⟨#[]⟩, .slice none 0 0, .slice none 0 0] 25
    simpa using this
  have ST0 : Hid (St w [⟨w.heap.size, n, k, An, cAn, Ak, cAk⟩] ((w.alloc (.cells #[.int .i64 n.kind, .int .i64 n.int, .int .i64 n.scale, .string (str n.text), .slice An n.names.length cAn, .slice Ak k.len cAk] 25)).alloc (.cells #[.int .i64 0, .int .i64 0, .int .i64 0, .string ⟨#[]⟩, .slice none 0 0, .slice none 0 0] 25))) := ST00.step (below_ra _ _)
  have R0 := Lib.hid R00
  clear R00 ST00
  generalize hW0 : (w.alloc (.cells #[.int .i64 n.kind, .int .i64 n.int, .int .i64 n.scale, .string (str n.text), .slice An n.names.length cAn, .slice Ak k.len cAk] 25)).alloc (.cells #[.int .i64 0, .int .i64 0, .int .i64 0, .string ⟨#[]⟩, .slice none 0 0, .slice none 0 0] 25) = W0 at *
  unfold ncells
  obtain ⟨r, e, hre⟩ : ∃ (r : Nd) (e : Int), negR n k = (r, e) := ⟨_, _, rfl⟩
  have HS : Hid (∀ W, Vo W (· < W.heap.size) n k (.agg #[.int .i64 n.kind, .int .i64 n.int, .int .i64 n.scale, .string (str n.text), .slice An n.names.length cAn, .slice Ak k.len cAk]) → Calls Tryd.prog 18 #[.agg #[.int .i64 3, .int .i64 0, .int .i64 0, .string ⟨#[]⟩, .slice none 0 0, .slice none 0 0], .agg #[.int .i64 n.kind, .int .i64 n.int, .int .i64 n.scale, .string (str n.text), .slice An n.names.length cAn, .slice Ak k.len cAk]] W (Ret (.tuple #[.agg #[.int .i64 r.kind, .int .i64 r.int, .int .i64 r.scale, .string (str r.text), .slice none 0 0, .slice none 0 0], .int .i64 e]) W)) := fun W h => by
    have h' := subR_any nilN .nil n k (numv nilN) _ W (plain_vo (num_plain nilN_num) W _) h
    have e1 : subR nilN .nil n k = (r, e) := hre
    rw [e1] at h'
    exact h'
  rw [hre]
  unfold vans numv
  clear hre hv hok0
  go_enter Tryd.func24, Tryd.ntmps24
  go_upto_region 1 with fail
  clear hW0
  obtain ⟨x0_0, x0_1, x0_2, x0_3, x0_4, x0_5⟩ : _ := ST0.out.six 0 rfl
  go_wp2_with fail
  refine (HS.out _ (ST0.out.v 0 rfl)).mono ?_
  rintro e' u1 ⟨rfl, c1⟩
  have ST1 : Hid (St w [⟨w.heap.size, n, k, An, cAn, Ak, cAk⟩] u1) := ST0.out.step c1
  have R1 : Hid (Blk u1 (w.heap.size + 1) #[.int .i64 0, .int .i64 0, .int .i64 0, .string ⟨#[]⟩, .slice none 0 0, .slice none 0 0] 25) := R0.out.below c1 R0.out.lt
  clear c1
  clear x0_0 x0_1 x0_2 x0_3 x0_4 x0_5
  have p0 : u1.cell? ⟨w.heap.size + 1, 0, none⟩ = some (.int .i64 0) := R1.out.cell 0
  have q_0 := R1.out.free 0
  have p1 : u1.cell? ⟨w.heap.size + 1, 1, none⟩ = some (.int .i64 0) := R1.out.cell 1
  have q_1 := R1.out.free 1
  have p2 : u1.cell? ⟨w.heap.size + 1, 2, none⟩ = some (.int .i64 0) := R1.out.cell 2
  have q_2 := R1.out.free 2
  have p3 : u1.cell? ⟨w.heap.size + 1, 3, none⟩ = some (.string ⟨#[]⟩) := R1.out.cell 3
  have q_3 := R1.out.free 3
  have p4 : u1.cell? ⟨w.heap.size + 1, 4, none⟩ = some (.slice none 0 0) := R1.out.cell 4
  have q_4 := R1.out.free 4
  have p5 : u1.cell? ⟨w.heap.size + 1, 5, none⟩ = some (.slice none 0 0) := R1.out.cell 5
  have q_5 := R1.out.free 5
  go_wp2_with fail
  exact ret6 Tryd.results24 rfl rfl R1.out (by omega) ST1.out.1 rfl
set_option maxRecDepth 100000 in
set_option maxHeartbeats 12800000 in
theorem rneg6_0 (n : Nd) (k : F) (v : Value) (w : World) (hv : Vo w (· < w.heap.size) n k v) (h1 : numB n k = false) :
    Calls Tryd.prog 25 #[v] w (Ret (vans (zN, 11)) w) := by
  obtain ⟨An, cAn, Ak, cAk, rfl, hok0, _, _, _, _⟩ := id hv
  have ST00 : St w [⟨w.heap.size, n, k, An, cAn, Ak, cAk⟩] (w.alloc (.cells #[.int .i64 n.kind, .int .i64 n.int, .int .i64 n.scale, .string (str n.text), .slice An n.names.length cAn, .slice Ak k.len cAk] 25)) := by
    have := (St.box_new (St.nil w) hv)
    simpa [ncells, Nat.add_assoc] using this
  have R00 : Blk ((w.alloc (.cells #[.int .i64 n.kind, .int .i64 n.int, .int .i64 n.scale, .string (str n.text), .slice An n.names.length cAn, .slice Ak k.len cAk] 25)).alloc (.cells #[.int .i64 0, .int .i64 0, .int .i64 0, .string ⟨#[]⟩, .slice none 0 0, .slice none 0 0] 25)) (w.heap.size + 1) #[.int .i64 0, .int .i64 0, .int .i64 0, .string ⟨#[]⟩, .slice none 0 0, .slice none 0 0] 25 := by
    have := Blk.new (w.alloc (.cells #[.int .i64 n.kind, .int .i64 n.int, .int .i64 n.scale, .string (str n.text), .slice An n.names.length cAn, .slice Ak k.len cAk] 25)) #[.int .i64 0, .int .i64 0, .int .i64 0, .string ⟨#[]⟩, .slice none 0 0, .slice none 0 0] 25
    simpa using this
  have ST0 : Hid (St w [⟨w.heap.size, n, k, An, cAn, Ak, cAk⟩] ((w.alloc (.cells #[.int .i64 n.kind, .int .i64 n.int, .int .i64 n.scale, .string (str n.text), .slice An n.names.length cAn, .slice Ak k.len cAk] 25)).alloc (.cells #[.int .i64 0, .int .i64 0, .int .i64 0, .string ⟨#[]⟩, .slice none 0 0, .slice none 0 0] 25))) := ST00.step (below_ra _ _)
  have R0 := Lib.hid R00
  clear R00 ST00
  generalize hW0 : (w.alloc (.cells #[.int .i64 n.kind, .int .i64 n.int, .int .i64 n.scale, .string (str n.text), .slice An n.names.length cAn, .slice Ak k.len cAk] 25)).alloc (.cells #[.int .i64 0, .int .i64 0, .int .i64 0, .string ⟨#[]⟩, .slice none 0 0, .slice none 0 0] 25) = W0 at *
  unfold ncells
  have HI0 : Hid (∀ W, Vo W (· < W.heap.size) n k (.agg #[.int .i64 n.kind, .int .i64 n.int, .int .i64 n.scale, .string (str n.text), .slice An n.names.length cAn, .slice Ak k.len cAk]) → Calls Tryd.prog 14 #[.agg #[.int .i64 n.kind, .int .i64 n.int, .int .i64 n.scale, .string (str n.text), .slice An n.names.length cAn, .slice Ak k.len cAk]] W (Ret (.bool (numB n k)) W)) := fun W h => is_any n k _ W h
  rw [h1] at HI0
  clear hv h1
  go_enter Tryd.func25, Tryd.ntmps25
  go_upto_region 1 with fail
  clear hW0
  obtain ⟨x0_0, x0_1, x0_2, x0_3, x0_4, x0_5⟩ : _ := ST0.out.six 0 rfl
  go_wp2_with fail
  refine (HI0.out _ (ST0.out.v 0 rfl)).mono ?_
  rintro e' u1 ⟨rfl, c1⟩
  have ST1 : Hid (St w [⟨w.heap.size, n, k, An, cAn, Ak, cAk⟩] u1) := ST0.out.step c1
  have R1 : Hid (Blk u1 (w.heap.size + 1) #[.int .i64 0, .int .i64 0, .int .i64 0, .string ⟨#[]⟩, .slice none 0 0, .slice none 0 0] 25) := R0.out.below c1 R0.out.lt
  clear c1
  clear x0_0 x0_1 x0_2 x0_3 x0_4 x0_5
  have p0 : u1.cell? ⟨w.heap.size + 1, 0, none⟩ = some (.int .i64 0) := R1.out.cell 0
  have q_0 := R1.out.free 0
  have p1 : u1.cell? ⟨w.heap.size + 1, 1, none⟩ = some (.int .i64 0) := R1.out.cell 1
  have q_1 := R1.out.free 1
  have p2 : u1.cell? ⟨w.heap.size + 1, 2, none⟩ = some (.int .i64 0) := R1.out.cell 2
  have q_2 := R1.out.free 2
  have p3 : u1.cell? ⟨w.heap.size + 1, 3, none⟩ = some (.string ⟨#[]⟩) := R1.out.cell 3
  have q_3 := R1.out.free 3
  have p4 : u1.cell? ⟨w.heap.size + 1, 4, none⟩ = some (.slice none 0 0) := R1.out.cell 4
  have q_4 := R1.out.free 4
  have p5 : u1.cell? ⟨w.heap.size + 1, 5, none⟩ = some (.slice none 0 0) := R1.out.cell 5
  have q_5 := R1.out.free 5
  go_wp2_with fail
  exact ret6 Tryd.results25 rfl rfl R1.out (by omega) ST1.out.1 rfl
set_option maxRecDepth 100000 in
set_option maxHeartbeats 12800000 in
theorem rneg6_c (n : Nd) (k : F) (v : Value) (w : World) (hv : Vo w (· < w.heap.size) n k v) (h1 : numB n k = true) :
    Calls Tryd.prog 25 #[v] w (Ret (vans (negR n k)) w) := by
  obtain ⟨An, cAn, Ak, cAk, rfl, hok0, _, _, _, _⟩ := id hv
  have ST00 : St w [⟨w.heap.size, n, k, An, cAn, Ak, cAk⟩] (w.alloc (.cells #[.int .i64 n.kind, .int .i64 n.int, .int .i64 n.scale, .string (str n.text), .slice An n.names.length cAn, .slice Ak k.len cAk] 25)) := by
    have := (St.box_new (St.nil w) hv)
    simpa [ncells, Nat.add_assoc] using this
  have R00 : Blk ((w.alloc (.cells #[.int .i64 n.kind, .int .i64 n.int, .int .i64 n.scale, .string (str n.text), .slice An n.names.length cAn, .slice Ak k.len cAk] 25)).alloc (.cells #[.int .i64 0, .int .i64 0, .int .i64 0, .string ⟨#[]⟩, .slice none 0 0, .slice none 0 0] 25)) (w.heap.size + 1) #[.int .i64 0, .int .i64 0, .int .i64 0, .string ⟨#[]⟩, .slice none 0 0, .slice none 0 0] 25 := by
    have := Blk.new (w.alloc (.cells #[.int .i64 n.kind, .int .i64 n.int, .int .i64 n.scale, .string (str n.text), .slice An n.names.length cAn, .slice Ak k.len cAk] 25)) #[.int .i64 0, .int .i64 0, .int .i64 0, .string ⟨#[]⟩, .slice none 0 0, .slice none 0 0] 25
    simpa using this
  have ST0 : Hid (St w [⟨w.heap.size, n, k, An, cAn, Ak, cAk⟩] ((w.alloc (.cells #[.int .i64 n.kind, .int .i64 n.int, .int .i64 n.scale, .string (str n.text), .slice An n.names.length cAn, .slice Ak k.len cAk] 25)).alloc (.cells #[.int .i64 0, .int .i64 0, .int .i64 0, .string ⟨#[]⟩, .slice none 0 0, .slice none 0 0] 25))) := ST00.step (below_ra _ _)
  have R0 := Lib.hid R00
  clear R00 ST00
  generalize hW0 : (w.alloc (.cells #[.int .i64 n.kind, .int .i64 n.int, .int .i64 n.scale, .string (str n.text), .slice An n.names.length cAn, .slice Ak k.len cAk] 25)).alloc (.cells #[.int .i64 0, .int .i64 0, .int .i64 0, .string ⟨#[]⟩, .slice none 0 0, .slice none 0 0] 25) = W0 at *
  unfold ncells
  obtain ⟨hn0, rfl⟩ := numB_num hok0 h1
  have HI0 : Hid (∀ W, Vo W (· < W.heap.size) n .nil (.agg #[.int .i64 n.kind, .int .i64 n.int, .int .i64 n.scale, .string (str n.text), .slice An n.names.length cAn, .slice Ak F.nil.len cAk]) → Calls Tryd.prog 14 #[.agg #[.int .i64 n.kind, .int .i64 n.int, .int .i64 n.scale, .string (str n.text), .slice An n.names.length cAn, .slice Ak F.nil.len cAk]] W (Ret (.bool true) W)) := fun W h => by rw [← h1]; exact is_any n .nil _ W h
  have HV : Hid (vans (negR n .nil) = ansv (leastP (-n.int) n.scale.toNat)) := by show _ = _; rw [negR_num hn0, ansv_vans]; rfl
  generalize vans (negR n .nil) = V at *
  have HN : Hid (∀ W, Vo W (· < W.heap.size) n .nil (.agg #[.int .i64 n.kind, .int .i64 n.int, .int .i64 n.scale, .string (str n.text), .slice An n.names.length cAn, .slice Ak F.nil.len cAk]) → Calls Tryd.prog 43 #[.agg #[.int .i64 n.kind, .int .i64 n.int, .int .i64 n.scale, .string (str n.text), .slice An n.names.length cAn, .slice Ak F.nil.len cAk]] W (Ret (.tuple #[.agg #[.int .u64 0, .int .u64 (n.int.natAbs : Int), .bool (!decide (n.int < 0))], .int .i64 n.scale]) W)) := fun W h => rneg_any n .nil _ W h
  have HW : WideIs (.agg #[.int .u64 0, .int .u64 (n.int.natAbs : Int), .bool (!decide (n.int < 0))]) (-n.int) := ⟨0, n.int.natAbs, _, rfl, by decide, by have := hn0.2.2.1.1; have := hn0.2.2.1.2; omega, by
    rw [sg_not]
    have := sg_mul n.int 0
    simp at this
    simp [this]⟩
  obtain ⟨x0, x1, x2, xs, ee, hform⟩ := ansv_form (leastP (-n.int) n.scale.toNat)
  have hsc := hn0.scale_le
  have HL : Hid (∀ w : World, Calls Tryd.prog 33 #[.agg #[.int .u64 0, .int .u64 (n.int.natAbs : Int), .bool (!decide (n.int < 0))], .int .i64 n.scale] w (Ret (.tuple #[.agg #[.int .i64 x0, .int .i64 x1, .int .i64 x2, .string xs, .slice none 0 0, .slice none 0 0], .int .i64 ee]) w)) := fun w => by
    have h := rleast_any _ _ HW n.scale.toNat (by omega) w
    rw [show ((n.scale.toNat : Nat) : Int) = n.scale from by omega, hform] at h
    exact h
  rw [hform] at HV
  clear hform HW hsc
  generalize n.int.natAbs = a at *
  generalize (!decide (n.int < 0)) = b at *
  clear hv h1 hok0 hn0
  go_enter Tryd.func25, Tryd.ntmps25
  go_upto_region 1 with fail
  clear hW0
  obtain ⟨x0_0, x0_1, x0_2, x0_3, x0_4, x0_5⟩ : _ := ST0.out.six 0 rfl
  go_wp2_with fail
  refine (HI0.out _ (ST0.out.v 0 rfl)).mono ?_
  rintro e' u1 ⟨rfl, c1⟩
  have ST1 : Hid (St w [⟨w.heap.size, n, .nil, An, cAn, Ak, cAk⟩] u1) := ST0.out.step c1
  have R1 : Hid (Blk u1 (w.heap.size + 1) #[.int .i64 0, .int .i64 0, .int .i64 0, .string ⟨#[]⟩, .slice none 0 0, .slice none 0 0] 25) := R0.out.below c1 R0.out.lt
  clear c1
  clear x0_0 x0_1 x0_2 x0_3 x0_4 x0_5
  obtain ⟨x0_0, x0_1, x0_2, x0_3, x0_4, x0_5⟩ : _ := ST1.out.six 0 rfl
  go_upto_region 4 with (go_at_call 43; refine (HN.out _ (ST1.out.v 0 rfl)).mono ?_; rintro e u7 ⟨rfl, b7⟩)
  clear x0_0 x0_1 x0_2 x0_3 x0_4 x0_5
  obtain ⟨W7, hW7⟩ : ∃ W, u7.alloc (.cells #[.int .u64 0, .int .u64 (a : Int), .bool b] 60) = W := ⟨_, rfl⟩
  rw [hW7]
  have b8 : Below u1.heap.size u1 W7 := by rw [← hW7]; exact bseq b7 (below_ra _ _)
  have R7 : Hid (Blk W7 (w.heap.size + 1) #[.int .i64 0, .int .i64 0, .int .i64 0, .string ⟨#[]⟩, .slice none 0 0, .slice none 0 0] 25) := R1.out.below b8 R1.out.lt
  have B7 : Hid (Below w.heap.size w W7) := ST1.out.1.trans (b8.mono ST1.out.2.1)
  have K7 : Blk W7 u7.heap.size #[.int .u64 0, .int .u64 (a : Int), .bool b] 60 := by rw [← hW7]; exact Blk.new _ _ _
  have z0 : W7.cell? ⟨u7.heap.size, 0, none⟩ = some (.int .u64 0) := K7.cell 0
  have z1 : W7.cell? ⟨u7.heap.size, 1, none⟩ = some (.int .u64 (a : Int)) := K7.cell 1
  have z2 : W7.cell? ⟨u7.heap.size, 2, none⟩ = some (.bool b) := K7.cell 2
  clear hW7 b7 b8 K7
  go_wp2_with fail
  refine (HL.out _).mono ?_
  rintro e w9 ⟨rfl, b9⟩
  have R9 : Hid (Blk w9 (w.heap.size + 1) #[.int .i64 0, .int .i64 0, .int .i64 0, .string ⟨#[]⟩, .slice none 0 0, .slice none 0 0] 25) := R7.out.below b9 R7.out.lt
  have B9 : Hid (Below w.heap.size w w9) := B7.out.trans (b9.mono B7.out.size)
  have p0 : w9.cell? ⟨w.heap.size + 1, 0, none⟩ = some (.int .i64 0) := R9.out.cell 0
  have q_0 := R9.out.free 0
  have p1 : w9.cell? ⟨w.heap.size + 1, 1, none⟩ = some (.int .i64 0) := R9.out.cell 1
  have q_1 := R9.out.free 1
  have p2 : w9.cell? ⟨w.heap.size + 1, 2, none⟩ = some (.int .i64 0) := R9.out.cell 2
  have q_2 := R9.out.free 2
  have p3 : w9.cell? ⟨w.heap.size + 1, 3, none⟩ = some (.string ⟨#[]⟩) := R9.out.cell 3
  have q_3 := R9.out.free 3
  have p4 : w9.cell? ⟨w.heap.size + 1, 4, none⟩ = some (.slice none 0 0) := R9.out.cell 4
  have q_4 := R9.out.free 4
  have p5 : w9.cell? ⟨w.heap.size + 1, 5, none⟩ = some (.slice none 0 0) := R9.out.cell 5
  have q_5 := R9.out.free 5
  clear b9
  go_wp2_with fail
  exact ret6 Tryd.results25 rfl rfl R9.out (by omega) B9.out HV.out
theorem rneg6_any (n : Nd) (k : F) (v : Value) (w : World) (hv : Vo w (· < w.heap.size) n k v) :
    Calls Tryd.prog 25 #[v] w (Ret (vans (negR n k)) w) := by
  cases h1 : numB n k with
  | false =>
    rw [negR_not h1]
    exact rneg6_0 n k v w hv h1
  | true => exact rneg6_c n k v w hv h1
end Go.Proofs.YtfcbcbpnlnkpcaaDoor

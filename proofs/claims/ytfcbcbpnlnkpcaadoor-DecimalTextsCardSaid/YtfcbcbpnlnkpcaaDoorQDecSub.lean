/- decimal: Sub. (Printed by a small program of mine, gen/mkadd4.py.) -/
import Derived.Test.YtfcbcbpnlnkpcaaDoorQDecAdd
namespace Go.Proofs.YtfcbcbpnlnkpcaaDoor
set_option linter.all false
open Go.RowKit
theorem sg_not (b : Bool) (m : Nat) : sg (!b) m = -(sg b m) := by cases b <;> simp [sg]
set_option maxRecDepth 100000 in
set_option maxHeartbeats 6400000 in
theorem Sub_any (n : Nd) (k : F) (m : Nd) (q : F) (v u : Value) (w : World) (hv : Vo w (· < w.heap.size) n k v) (hu : Vo w (· < w.heap.size) m q u) :
    Calls Tryd.prog 18 #[v, u] w (Ret (if (numB n k && numB m q) = true then ansv (leastP (vN n - vN m) 18) else ansE) w) := by
  have hare : Hid (∀ (A : Option Addr) (w : World), Kids w (· < w.heap.size) A (.cons n k (.cons m q .nil)) → Calls Tryd.prog 36 #[.slice A 2 2] w (Ret (.bool (areF (.cons n k (.cons m q .nil)))) w)) := fun A w h => are_any A (.cons n k (.cons m q .nil)) w (by simp [F.len]) h
  obtain ⟨An, cn, Ak, ck, rfl, hok1, _, _, _, _⟩ := id hv
  obtain ⟨Bn, dn, Bk, dk, rfl, hok2, _, _, _, _⟩ := id hu
  have ST0 : St w [⟨w.heap.size, n, k, An, cn, Ak, ck⟩, ⟨w.heap.size + 1, m, q, Bn, dn, Bk, dk⟩] ((w.alloc (.cells #[.int .i64 n.kind, .int .i64 n.int, .int .i64 n.scale, .string (str n.text), .slice An n.names.length cn, .slice Ak k.len ck] 25)).alloc (.cells #[.int .i64 m.kind, .int .i64 m.int, .int .i64 m.scale, .string (str m.text), .slice Bn m.names.length dn, .slice Bk q.len dk] 25)) := by
    have := (St.box_new (St.box_new (St.nil w) hv) hu)
    simpa [ncells] using this
  have ST : St w [⟨w.heap.size, n, k, An, cn, Ak, ck⟩, ⟨w.heap.size + 1, m, q, Bn, dn, Bk, dk⟩] (((w.alloc (.cells #[.int .i64 n.kind, .int .i64 n.int, .int .i64 n.scale, .string (str n.text), .slice An n.names.length cn, .slice Ak k.len ck] 25)).alloc (.cells #[.int .i64 m.kind, .int .i64 m.int, .int .i64 m.scale, .string (str m.text), .slice Bn m.names.length dn, .slice Bk q.len dk] 25)).alloc (.cells #[.int .i64 0, .int .i64 0, .int .i64 0, .string ⟨#[]⟩, .slice none 0 0, .slice none 0 0] 25)) := ST0.step (below_ra _ _)
  have rb : Blk (((w.alloc (.cells #[.int .i64 n.kind, .int .i64 n.int, .int .i64 n.scale, .string (str n.text), .slice An n.names.length cn, .slice Ak k.len ck] 25)).alloc (.cells #[.int .i64 m.kind, .int .i64 m.int, .int .i64 m.scale, .string (str m.text), .slice Bn m.names.length dn, .slice Bk q.len dk] 25)).alloc (.cells #[.int .i64 0, .int .i64 0, .int .i64 0, .string ⟨#[]⟩, .slice none 0 0, .slice none 0 0] 25)) (w.heap.size + 1 + 1) #[.int .i64 0, .int .i64 0, .int .i64 0, .string ⟨#[]⟩, .slice none 0 0, .slice none 0 0] 25 := by
    have := Blk.new ((w.alloc (.cells #[.int .i64 n.kind, .int .i64 n.int, .int .i64 n.scale, .string (str n.text), .slice An n.names.length cn, .slice Ak k.len ck] 25)).alloc (.cells #[.int .i64 m.kind, .int .i64 m.int, .int .i64 m.scale, .string (str m.text), .slice Bn m.names.length dn, .slice Bk q.len dk] 25)) #[.int .i64 0, .int .i64 0, .int .i64 0, .string ⟨#[]⟩, .slice none 0 0, .slice none 0 0] 25
    simpa using this
  generalize hW : (((w.alloc (.cells #[.int .i64 n.kind, .int .i64 n.int, .int .i64 n.scale, .string (str n.text), .slice An n.names.length cn, .slice Ak k.len ck] 25)).alloc (.cells #[.int .i64 m.kind, .int .i64 m.int, .int .i64 m.scale, .string (str m.text), .slice Bn m.names.length dn, .slice Bk q.len dk] 25)).alloc (.cells #[.int .i64 0, .int .i64 0, .int .i64 0, .string ⟨#[]⟩, .slice none 0 0, .slice none 0 0] 25)) = W at *
  have hA : areF (.cons n k (.cons m q .nil)) = (numB n k && numB m q) := by simp [areF]
  rw [hA] at hare
  obtain ⟨V, hV⟩ : ∃ V, (if (numB n k && numB m q) = true then ansv (leastP (vN n - vN m) 18) else ansE) = V := ⟨_, rfl⟩
  rw [hV]
  have HVV := Lib.hid hV
  clear hV
  generalize hR : (numB n k && numB m q) = R at *
  have ST1 := Lib.hid ST
  have RB := Lib.hid rb
  obtain ⟨x00, x01, x02, x03, x04, x05⟩ : Six0 W w.heap.size n An cn Ak k.len ck := ST.six 0 rfl
  obtain ⟨x10, x11, x12, x13, x14, x15⟩ : Six0 W (w.heap.size + 1) m Bn dn Bk q.len dk := ST.six 1 rfl
  have xlt : w.heap.size + 1 + 1 < W.heap.size := rb.lt
  have HSC : Hid (R = true → (isNum n ∧ k = .nil) ∧ isNum m ∧ q = .nil) := fun e => by
    rw [← hR, Bool.and_eq_true] at e
    exact ⟨numB_num hok1 e.1, numB_num hok2 e.2⟩
  clear ST ST0 rb hv hu hA hR hok1 hok2
  unfold ncells
  go_enter Tryd.func18, Tryd.ntmps18
  go_wp2_with fail
  have hkd := kids_new (Vo.kc (ST1.out.v 0 rfl) (Vo.kc (ST1.out.v 1 rfl) (show Kc W (· < W.heap.size) F.nil [] from rfl))) (fun b hb => hb) 25
  generalize hWa : W.alloc (.cells #[.int .i64 n.kind, .int .i64 n.int, .int .i64 n.scale, .string (str n.text), .slice An n.names.length cn, .slice Ak k.len ck, .int .i64 m.kind, .int .i64 m.int, .int .i64 m.scale, .string (str m.text), .slice Bn m.names.length dn, .slice Bk q.len dk] 25) = Wa
  have ba : Below W.heap.size W Wa := by rw [← hWa]; exact below_ra _ _
  have HK : Hid (Kids Wa (· < Wa.heap.size) (some ⟨W.heap.size, 0, none⟩) (.cons n k (.cons m q .nil))) := by show Kids _ _ _ _; rw [← hWa]; simpa [ncells] using hkd
  clear hkd hWa x00 x01 x02 x03 x04 x05 x10 x11 x12 x13 x14 x15
  refine ((unhide hare) _ _ HK.out).mono ?_
  rintro e w4 ⟨rfl, b4⟩
  have b4' := bseq ba b4
  have ST4 := Lib.hid (ST1.out.step b4')
  have R4 : Hid (Blk w4 (w.heap.size + 1 + 1) #[.int .i64 0, .int .i64 0, .int .i64 0, .string ⟨#[]⟩, .slice none 0 0, .slice none 0 0] 25) := RB.out.below b4' xlt
  clear ST1 HK ba b4 b4' hW hare RB xlt
  rcases R with _ | _
  · have BW : Hid (Below w.heap.size w w4) := ST4.out.1
    have HN : Hid (V = ansE) := by show _ = _; rw [← HVV.out]; rfl
    have p0 : w4.cell? ⟨w.heap.size + 1 + 1, 0, none⟩ = some (.int .i64 0) := R4.out.cell 0
    have q_0 := R4.out.free 0
    have p1 : w4.cell? ⟨w.heap.size + 1 + 1, 1, none⟩ = some (.int .i64 0) := R4.out.cell 1
    have q_1 := R4.out.free 1
    have p2 : w4.cell? ⟨w.heap.size + 1 + 1, 2, none⟩ = some (.int .i64 0) := R4.out.cell 2
    have q_2 := R4.out.free 2
    have p3 : w4.cell? ⟨w.heap.size + 1 + 1, 3, none⟩ = some (.string ⟨#[]⟩) := R4.out.cell 3
    have q_3 := R4.out.free 3
    have p4 : w4.cell? ⟨w.heap.size + 1 + 1, 4, none⟩ = some (.slice none 0 0) := R4.out.cell 4
    have q_4 := R4.out.free 4
    have p5 : w4.cell? ⟨w.heap.size + 1 + 1, 5, none⟩ = some (.slice none 0 0) := R4.out.cell 5
    have q_5 := R4.out.free 5
    go_wp2_with fail
    exact ret6 Tryd.results18 rfl rfl R4.out (by omega) BW.out (by rw [HN.out]; rfl)
  · obtain ⟨⟨hn, rfl⟩, hm, rfl⟩ := HSC.out rfl
    have sn := hn.scale_le
    have sm := hm.scale_le
    obtain ⟨s1, s2, _⟩ := sn
    obtain ⟨t1, t2, _⟩ := sm
    obtain ⟨x00, x01, x02, x03, x04, x05⟩ : Six0 w4 w.heap.size n An cn Ak F.nil.len ck := ST4.out.six 0 rfl
    obtain ⟨x10, x11, x12, x13, x14, x15⟩ : Six0 w4 (w.heap.size + 1) m Bn dn Bk F.nil.len dk := ST4.out.six 1 rfl
    have HN := Lib.hid hn
    have HM := Lib.hid hm
    have HV : Hid (V = ansv (leastP (vN n - vN m) 18)) := by show _ = _; rw [← HVV.out]; rfl
    clear hn hm HVV
    go_upto_region 4 with fail
    have HS := Lib.hid (And.intro (And.intro s1 s2) (And.intro t1 t2))
    obtain ⟨c, hc⟩ : ∃ c : Int, max n.scale m.scale = c := ⟨_, rfl⟩
    have c1 : n.scale ≤ c := by omega
    have c2 : m.scale ≤ c := by omega
    have c3 : c ≤ 18 := by omega
    rw [hc]
    clear hc
    obtain ⟨O1, hw1, hl1, ho1⟩ := of_wide n.int HN.out.2.2.1 (c - n.scale) (by omega) (by omega)
    obtain ⟨O2, hw2, hl2, ho2⟩ := of_wide m.int HM.out.2.2.1 (c - m.scale) (by omega) (by omega)
    obtain ⟨h2, l2, b2, rfl, hh2, hl22, hm2⟩ := hw2
    have hw3 : WideIs (.agg #[.int .u64 h2, .int .u64 l2, .bool (!b2)]) (-(m.int * 10 ^ (c - m.scale).toNat)) := ⟨h2, l2, !b2, rfl, hh2, hl22, by rw [sg_not, hm2]⟩
    have HP : Hid (∀ w : World, Calls Tryd.prog 37 #[O1, .agg #[.int .u64 h2, .int .u64 l2, .bool (!b2)]] w (fun e w' => ∃ z, e = .returned z ∧ WideIs z (n.int * 10 ^ (c - n.scale).toNat + -(m.int * 10 ^ (c - m.scale).toNat)) ∧ Below w.heap.size w w')) := fun w => plus_any O1 _ _ _ hw1 hw3 hl1 (by rw [Int.natAbs_neg]; exact hl2) w
    have HL : Hid (∀ (w : World) (z : Value), WideIs z (n.int * 10 ^ (c - n.scale).toNat + -(m.int * 10 ^ (c - m.scale).toNat)) → Calls Tryd.prog 32 #[z, .int .i64 c] w (Ret V w)) := fun w z hz => by
      have h := least_any z _ hz c.toNat (by omega) w
      have h2 := leastP_two HN.out HM.out 1 (-1) c.toNat (by omega) (by omega) (by omega)
      rw [Int.one_mul, Int.one_mul, Int.neg_mul, Int.neg_mul, Int.one_mul, Int.one_mul, ← Int.sub_eq_add_neg (a := vN n)] at h2
      rw [show (c - n.scale).toNat = c.toNat - n.scale.toNat from by omega, show (c - m.scale).toNat = c.toNat - m.scale.toNat from by omega, h2, show ((c.toNat : Nat) : Int) = c from by omega] at h
      rw [HV.out]
      exact h
    have HO1 : Hid (∀ w, Calls Tryd.prog 31 #[.int .i64 n.int, .int .i64 (IntKind.i64.wrap (c - n.scale))] w (Ret O1 w)) := by show ∀ w, _; rw [i64w (by omega) (by omega)]; exact ho1
    have HO2 := Lib.hid ho2
    obtain ⟨x0, x1, x2, xs, ee, hform⟩ := ansv_form (leastP (vN n - vN m) 18)
    rw [hform] at HV
    rw [HV.out] at HL
    have BB := Lib.hid (And.intro hh2 hl22)
    clear hw1 hw3 hl1 hl2 ho1 ho2 hform x00 x01 x02 x03 x04 x05 x10 x13 x14 x15 HSC hm2 hh2 hl22
    have ST_w4 := ST4
    have R_w4 := R4
    go_upto_region 6 with (go_at_call 31; refine (HO2.out _).mono ?_; rintro e u0 ⟨rfl, b_u0⟩)
    have ST_u : Hid (St w [⟨w.heap.size, n, .nil, An, cn, Ak, ck⟩, ⟨w.heap.size + 1, m, .nil, Bn, dn, Bk, dk⟩] (u0.alloc (.cells #[.int .u64 h2, .int .u64 l2, .bool (!b2)] 55))) := (ST4.out.step b_u0).step (below_ra _ _)
    have R_u : Hid (Blk (u0.alloc (.cells #[.int .u64 h2, .int .u64 l2, .bool (!b2)] 55)) (w.heap.size + 1 + 1) #[.int .i64 0, .int .i64 0, .int .i64 0, .string ⟨#[]⟩, .slice none 0 0, .slice none 0 0] 25) := (R4.out.below b_u0 R4.out.lt).alloc _
    have K_u : Hid (Blk (u0.alloc (.cells #[.int .u64 h2, .int .u64 l2, .bool (!b2)] 55)) u0.heap.size #[.int .u64 h2, .int .u64 l2, .bool (!b2)] 55) := Blk.new _ _ _
    have hgu : w.heap.size + 1 + 1 < u0.heap.size := (R4.out.below b_u0 R4.out.lt).lt
    generalize (u0.alloc (.cells #[.int .u64 h2, .int .u64 l2, .bool (!b2)] 55)) = wu at *
    generalize u0.heap.size = g7 at *
    have ST_v0 : Hid (St w [⟨w.heap.size, n, .nil, An, cn, Ak, ck⟩, ⟨w.heap.size + 1, m, .nil, Bn, dn, Bk, dk⟩] wu.drew) := ST_u.out.drew
    have R_v0 : Hid (Blk wu.drew (w.heap.size + 1 + 1) #[.int .i64 0, .int .i64 0, .int .i64 0, .string ⟨#[]⟩, .slice none 0 0, .slice none 0 0] 25) := R_u.out
    have K_v0 : Hid (Blk wu.drew g7 #[.int .u64 h2, .int .u64 l2, .bool (!b2)] 55) := K_u.out
    have y1_v0 : wu.drew.cell? ⟨w.heap.size, 1, none⟩ = some (.int .i64 n.int) := (ST_v0.out.six 0 rfl).2.1
    have y2_v0 : wu.drew.cell? ⟨w.heap.size, 2, none⟩ = some (.int .i64 n.scale) := (ST_v0.out.six 0 rfl).2.2.1
    have z0_v0 : wu.drew.cell? ⟨g7, 0, none⟩ = some (.int .u64 h2) := K_v0.out.cell 0
    have z1_v0 : wu.drew.cell? ⟨g7, 1, none⟩ = some (.int .u64 l2) := K_v0.out.cell 1
    have z2_v0 : wu.drew.cell? ⟨g7, 2, none⟩ = some (.bool (!b2)) := K_v0.out.cell 2
    refine wp_region_held_drew (S := fun w' => w'.cell? ⟨w.heap.size, 1, none⟩ = some (.int .i64 n.int) ∧ w'.cell? ⟨w.heap.size, 2, none⟩ = some (.int .i64 n.scale) ∧ w'.cell? ⟨g7, 0, none⟩ = some (.int .u64 h2) ∧ w'.cell? ⟨g7, 1, none⟩ = some (.int .u64 l2) ∧ w'.cell? ⟨g7, 2, none⟩ = some (.bool (!b2))) (by kernel_rfl) (⟨y1_v0, y2_v0, z0_v0, z1_v0, z2_v0⟩) (fun hHeld => ?_)
    refine wpAnyH_take (i := 0) (oi := { dst := some 30, op := Go.Op.fieldAddr 25 (Go.Operand.tmp 2) 1, type := 0, pos := "decimal.go:119", after := #[], guard := none }) (v := ?_) rfl (by kernel_rfl) (by kernel_rfl) (by kernel_rfl) (fun _ _ _ h => h) (Or.inl ⟨by rfl, ?_⟩) (by assumption) ?_
    rotate_left
    · (intro w hSw; (try dsimp only at hSw); go_simp; try with_reducible rfl)
    try simp only [Act.put, List.setIfInBounds_toArray, List.set_cons_zero, List.set_cons_succ]
    refine wpAnyH_take (i := 1) (oi := { dst := some 31, op := Go.Op.load 3 (Go.Operand.tmp 30), type := 3, pos := "decimal.go:119", after := #[{ on := 0, ground := Go.Ground.data }], guard := none }) (v := ?_) rfl (by kernel_rfl) (by kernel_rfl) (by kernel_rfl) (fun _ _ _ h => h) (Or.inl ⟨by rfl, ?_⟩) (by assumption) ?_
    rotate_left
    · (intro w hSw; (try dsimp only at hSw); go_simp; try with_reducible rfl)
    try simp only [Act.put, List.setIfInBounds_toArray, List.set_cons_zero, List.set_cons_succ]
    refine wpAnyH_take (i := 2) (oi := { dst := some 32, op := Go.Op.move (Go.Operand.tmp 6), type := 3, pos := "decimal.go:119", after := #[], guard := none }) (v := ?_) rfl (by kernel_rfl) (by kernel_rfl) (by kernel_rfl) (fun _ _ _ h => h) (Or.inl ⟨by rfl, ?_⟩) (by assumption) ?_
    rotate_left
    · (intro w hSw; (try dsimp only at hSw); go_simp; try with_reducible rfl)
    try simp only [Act.put, List.setIfInBounds_toArray, List.set_cons_zero, List.set_cons_succ]
    refine wpAnyH_take (i := 3) (oi := { dst := some 33, op := Go.Op.fieldAddr 25 (Go.Operand.tmp 2) 2, type := 0, pos := "decimal.go:119", after := #[], guard := none }) (v := ?_) rfl (by kernel_rfl) (by kernel_rfl) (by kernel_rfl) (fun _ _ _ h => h) (Or.inl ⟨by rfl, ?_⟩) (by assumption) ?_
    rotate_left
    · (intro w hSw; (try dsimp only at hSw); go_simp; try with_reducible rfl)
    try simp only [Act.put, List.setIfInBounds_toArray, List.set_cons_zero, List.set_cons_succ]
    refine wpAnyH_take (i := 4) (oi := { dst := some 34, op := Go.Op.load 3 (Go.Operand.tmp 33), type := 3, pos := "decimal.go:119", after := #[{ on := 3, ground := Go.Ground.data }], guard := none }) (v := ?_) rfl (by kernel_rfl) (by kernel_rfl) (by kernel_rfl) (fun _ _ _ h => h) (Or.inl ⟨by rfl, ?_⟩) (by assumption) ?_
    rotate_left
    · (intro w hSw; (try dsimp only at hSw); go_simp; try with_reducible rfl)
    try simp only [Act.put, List.setIfInBounds_toArray, List.set_cons_zero, List.set_cons_succ]
    refine wpAnyH_take (i := 5) (oi := { dst := some 35, op := Go.Op.binOp Go.BinOp.sub 3 (Go.Operand.tmp 32) (Go.Operand.tmp 34) 3, type := 3, pos := "decimal.go:119", after := #[{ on := 2, ground := Go.Ground.data }, { on := 4, ground := Go.Ground.data }], guard := none }) (v := ?_) rfl (by kernel_rfl) (by kernel_rfl) (by kernel_rfl) (fun _ _ _ h => h) (Or.inl ⟨by rfl, ?_⟩) (by assumption) ?_
    rotate_left
    · (intro w hSw; (try dsimp only at hSw); go_simp; try with_reducible rfl)
    try simp only [Act.put, List.setIfInBounds_toArray, List.set_cons_zero, List.set_cons_succ]
    refine wpAnyH_take (i := 7) (oi := { dst := some 37, op := Go.Op.load 55 (Go.Operand.tmp 7), type := 55, pos := "decimal.go:119", after := #[], guard := none }) (v := ?_) rfl (by kernel_rfl) (by kernel_rfl) (by kernel_rfl) (fun _ _ _ h => h) (Or.inl ⟨by rfl, ?_⟩) (by assumption) ?_
    rotate_left
    · (intro w hSw; (try dsimp only at hSw); go_simp; try with_reducible rfl)
    try simp only [Act.put, List.setIfInBounds_toArray, List.set_cons_zero, List.set_cons_succ]
    refine wpAnyH_take (i := 9) (oi := { dst := some 39, op := Go.Op.move (Go.Operand.tmp 6), type := 3, pos := "decimal.go:119", after := #[], guard := none }) (v := ?_) rfl (by kernel_rfl) (by kernel_rfl) (by kernel_rfl) (fun _ _ _ h => h) (Or.inl ⟨by rfl, ?_⟩) (by assumption) ?_
    rotate_left
    · (intro w hSw; (try dsimp only at hSw); go_simp; try with_reducible rfl)
    try simp only [Act.put, List.setIfInBounds_toArray, List.set_cons_zero, List.set_cons_succ]
    refine wpAnyH_ready (rs := [6]) (by kernel_rfl) (by simp) ?_
    refine AllReadyH.cons (o := { dst := some 36, op := Go.Op.call { callee := Go.Callee.value (Go.Operand.func 31), args := #[Go.Operand.tmp 31, Go.Operand.tmp 35], argTypes := #[3, 3] }, type := 55, pos := "decimal.go:119", after := #[{ on := 1, ground := Go.Ground.data }, { on := 5, ground := Go.Ground.data }], guard := none }) rfl (fun K hK => ?_) AllReadyH.nil
    go_simp
    refine (HO1.out _).mono ?_
    rintro e v1 ⟨rfl, b_v1⟩
    have ST_v1 : Hid (St w [⟨w.heap.size, n, .nil, An, cn, Ak, ck⟩, ⟨w.heap.size + 1, m, .nil, Bn, dn, Bk, dk⟩] v1) := ST_v0.out.step b_v1
    have R_v1 : Hid (Blk v1 (w.heap.size + 1 + 1) #[.int .i64 0, .int .i64 0, .int .i64 0, .string ⟨#[]⟩, .slice none 0 0, .slice none 0 0] 25) := R_v0.out.below b_v1 R_v0.out.lt
    have K_v1 : Hid (Blk v1 g7 #[.int .u64 h2, .int .u64 l2, .bool (!b2)] 55) := K_v0.out.below b_v1 K_v0.out.lt
    have y1_v1 : v1.cell? ⟨w.heap.size, 1, none⟩ = some (.int .i64 n.int) := (ST_v1.out.six 0 rfl).2.1
    have y2_v1 : v1.cell? ⟨w.heap.size, 2, none⟩ = some (.int .i64 n.scale) := (ST_v1.out.six 0 rfl).2.2.1
    have z0_v1 : v1.cell? ⟨g7, 0, none⟩ = some (.int .u64 h2) := K_v1.out.cell 0
    have z1_v1 : v1.cell? ⟨g7, 1, none⟩ = some (.int .u64 l2) := K_v1.out.cell 1
    have z2_v1 : v1.cell? ⟨g7, 2, none⟩ = some (.bool (!b2)) := K_v1.out.cell 2
    go_wp2_with fail
    refine hK.out _ _ (⟨y1_v1, y2_v1, z0_v1, z1_v1, z2_v1⟩) (fun hHeld => ?_)
    clear hK K
    try simp only [Act.put, List.setIfInBounds_toArray, List.set_cons_zero, List.set_cons_succ]
    refine wpAnyH_ready (rs := [8]) (by kernel_rfl) (by simp) ?_
    refine AllReadyH.cons (o := { dst := some 38, op := Go.Op.call { callee := Go.Callee.value (Go.Operand.func 37), args := #[Go.Operand.tmp 36, Go.Operand.tmp 37], argTypes := #[55, 55] }, type := 55, pos := "decimal.go:119", after := #[{ on := 6, ground := Go.Ground.data }, { on := 7, ground := Go.Ground.data }, { on := 6, ground := Go.Ground.chain }], guard := none }) rfl (fun K hK => ?_) AllReadyH.nil
    go_simp
    refine (HP.out _).mono ?_
    rintro e v2 ⟨z, rfl, hz, b_v2⟩
    have ST_v2 : Hid (St w [⟨w.heap.size, n, .nil, An, cn, Ak, ck⟩, ⟨w.heap.size + 1, m, .nil, Bn, dn, Bk, dk⟩] v2) := ST_v1.out.step b_v2
    have R_v2 : Hid (Blk v2 (w.heap.size + 1 + 1) #[.int .i64 0, .int .i64 0, .int .i64 0, .string ⟨#[]⟩, .slice none 0 0, .slice none 0 0] 25) := R_v1.out.below b_v2 R_v1.out.lt
    have K_v2 : Hid (Blk v2 g7 #[.int .u64 h2, .int .u64 l2, .bool (!b2)] 55) := K_v1.out.below b_v2 K_v1.out.lt
    have y1_v2 : v2.cell? ⟨w.heap.size, 1, none⟩ = some (.int .i64 n.int) := (ST_v2.out.six 0 rfl).2.1
    have y2_v2 : v2.cell? ⟨w.heap.size, 2, none⟩ = some (.int .i64 n.scale) := (ST_v2.out.six 0 rfl).2.2.1
    have z0_v2 : v2.cell? ⟨g7, 0, none⟩ = some (.int .u64 h2) := K_v2.out.cell 0
    have z1_v2 : v2.cell? ⟨g7, 1, none⟩ = some (.int .u64 l2) := K_v2.out.cell 1
    have z2_v2 : v2.cell? ⟨g7, 2, none⟩ = some (.bool (!b2)) := K_v2.out.cell 2
    have HZ := Lib.hid hz
    clear hz
    go_wp2_with fail
    refine hK.out _ _ (⟨y1_v2, y2_v2, z0_v2, z1_v2, z2_v2⟩) (fun hHeld => ?_)
    clear hK K
    try simp only [Act.put, List.setIfInBounds_toArray, List.set_cons_zero, List.set_cons_succ]
    refine wpAnyH_ready (rs := [10]) (by kernel_rfl) (by simp) ?_
    refine AllReadyH.cons (o := { dst := some 40, op := Go.Op.call { callee := Go.Callee.value (Go.Operand.func 32), args := #[Go.Operand.tmp 38, Go.Operand.tmp 39], argTypes := #[55, 3] }, type := 27, pos := "decimal.go:119", after := #[{ on := 8, ground := Go.Ground.data }, { on := 9, ground := Go.Ground.data }, { on := 8, ground := Go.Ground.chain }], guard := none }) rfl (fun K hK => ?_) AllReadyH.nil
    go_simp
    refine (HL.out _ _ HZ.out).mono ?_
    rintro e v3 ⟨rfl, b_v3⟩
    have ST_v3 : Hid (St w [⟨w.heap.size, n, .nil, An, cn, Ak, ck⟩, ⟨w.heap.size + 1, m, .nil, Bn, dn, Bk, dk⟩] v3) := ST_v2.out.step b_v3
    have R_v3 : Hid (Blk v3 (w.heap.size + 1 + 1) #[.int .i64 0, .int .i64 0, .int .i64 0, .string ⟨#[]⟩, .slice none 0 0, .slice none 0 0] 25) := R_v2.out.below b_v3 R_v2.out.lt
    have K_v3 : Hid (Blk v3 g7 #[.int .u64 h2, .int .u64 l2, .bool (!b2)] 55) := K_v2.out.below b_v3 K_v2.out.lt
    have y1_v3 : v3.cell? ⟨w.heap.size, 1, none⟩ = some (.int .i64 n.int) := (ST_v3.out.six 0 rfl).2.1
    have y2_v3 : v3.cell? ⟨w.heap.size, 2, none⟩ = some (.int .i64 n.scale) := (ST_v3.out.six 0 rfl).2.2.1
    have z0_v3 : v3.cell? ⟨g7, 0, none⟩ = some (.int .u64 h2) := K_v3.out.cell 0
    have z1_v3 : v3.cell? ⟨g7, 1, none⟩ = some (.int .u64 l2) := K_v3.out.cell 1
    have z2_v3 : v3.cell? ⟨g7, 2, none⟩ = some (.bool (!b2)) := K_v3.out.cell 2
    clear HZ
    go_wp2_with fail
    refine hK.out _ _ (⟨y1_v3, y2_v3, z0_v3, z1_v3, z2_v3⟩) (fun hHeld => ?_)
    clear hK K
    try simp only [Act.put, List.setIfInBounds_toArray, List.set_cons_zero, List.set_cons_succ]
    refine wpAnyH_take (i := 11) (oi := { dst := some 41, op := Go.Op.extract (Go.Operand.tmp 40) 0, type := 25, pos := "decimal.go:119", after := #[{ on := 10, ground := Go.Ground.data }], guard := none }) (v := ?_) rfl (by kernel_rfl) (by kernel_rfl) (by kernel_rfl) (fun _ _ _ h => h) (Or.inl ⟨by rfl, ?_⟩) (by assumption) ?_
    rotate_left
    · (intro w hSw; (try dsimp only at hSw); go_simp; try with_reducible rfl)
    try simp only [Act.put, List.setIfInBounds_toArray, List.set_cons_zero, List.set_cons_succ]
    refine wpAnyH_take (i := 12) (oi := { dst := some 42, op := Go.Op.extract (Go.Operand.tmp 40) 1, type := 26, pos := "decimal.go:119", after := #[{ on := 10, ground := Go.Ground.data }], guard := none }) (v := ?_) rfl (by kernel_rfl) (by kernel_rfl) (by kernel_rfl) (fun _ _ _ h => h) (Or.inl ⟨by rfl, ?_⟩) (by assumption) ?_
    rotate_left
    · (intro w hSw; (try dsimp only at hSw); go_simp; try with_reducible rfl)
    try simp only [Act.put, List.setIfInBounds_toArray, List.set_cons_zero, List.set_cons_succ]
    refine wpAnyH_ready (rs := [13]) (by kernel_rfl) (by simp) ?_
    refine AllReadyH.cons (o := { dst := none, op := Go.Op.store 25 (Go.Operand.tmp 4) (Go.Operand.tmp 41), type := 0, pos := "decimal.go:119", after := #[{ on := 11, ground := Go.Ground.data }, { on := 10, ground := Go.Ground.chain }, { on := 0, ground := Go.Ground.phase }, { on := 1, ground := Go.Ground.phase }, { on := 2, ground := Go.Ground.phase }, { on := 3, ground := Go.Ground.phase }, { on := 4, ground := Go.Ground.phase }, { on := 5, ground := Go.Ground.phase }, { on := 6, ground := Go.Ground.phase }, { on := 7, ground := Go.Ground.phase }, { on := 8, ground := Go.Ground.phase }, { on := 9, ground := Go.Ground.phase }, { on := 10, ground := Go.Ground.phase }, { on := 11, ground := Go.Ground.phase }, { on := 12, ground := Go.Ground.phase }], guard := none }) rfl (fun K hK => ?_) AllReadyH.nil
    have p0 : v3.cell? ⟨w.heap.size + 1 + 1, 0, none⟩ = some (.int .i64 0) := R_v3.out.cell 0
    have q_0 := R_v3.out.free 0
    have p1 : v3.cell? ⟨w.heap.size + 1 + 1, 1, none⟩ = some (.int .i64 0) := R_v3.out.cell 1
    have q_1 := R_v3.out.free 1
    have p2 : v3.cell? ⟨w.heap.size + 1 + 1, 2, none⟩ = some (.int .i64 0) := R_v3.out.cell 2
    have q_2 := R_v3.out.free 2
    have p3 : v3.cell? ⟨w.heap.size + 1 + 1, 3, none⟩ = some (.string ⟨#[]⟩) := R_v3.out.cell 3
    have q_3 := R_v3.out.free 3
    have p4 : v3.cell? ⟨w.heap.size + 1 + 1, 4, none⟩ = some (.slice none 0 0) := R_v3.out.cell 4
    have q_4 := R_v3.out.free 4
    have p5 : v3.cell? ⟨w.heap.size + 1 + 1, 5, none⟩ = some (.slice none 0 0) := R_v3.out.cell 5
    have q_5 := R_v3.out.free 5
    go_simp
    obtain ⟨wS, hwS⟩ : ∃ wS, ((((((v3.setCell ⟨w.heap.size + 1 + 1, 0, none⟩ (.int .i64 x0)).setCell ⟨w.heap.size + 1 + 1, 1, none⟩ (.int .i64 x1)).setCell ⟨w.heap.size + 1 + 1, 2, none⟩ (.int .i64 x2)).setCell ⟨w.heap.size + 1 + 1, 3, none⟩ (.string xs)).setCell ⟨w.heap.size + 1 + 1, 4, none⟩ (.slice none 0 0)).setCell ⟨w.heap.size + 1 + 1, 5, none⟩ (.slice none 0 0)) = wS := ⟨_, rfl⟩
    rw [hwS]
    have X_wS : Hid (Blk wS w.heap.size (ncells n An cn Ak F.nil.len ck).toArray 25) := by show Blk _ _ _ _; rw [← hwS]; exact (((((((show Blk v3 w.heap.size (ncells n An cn Ak F.nil.len ck).toArray 25 from (ST_v3.out.box 0 rfl).1).set_other 0 _ (by omega)).set_other 1 _ (by omega)).set_other 2 _ (by omega)).set_other 3 _ (by omega)).set_other 4 _ (by omega)).set_other 5 _ (by omega))
    have K_wS : Hid (Blk wS g7 #[.int .u64 h2, .int .u64 l2, .bool (!b2)] 55) := by show Blk _ _ _ _; rw [← hwS]; exact (((((((show Blk v3 g7 #[.int .u64 h2, .int .u64 l2, .bool (!b2)] 55 from K_v3.out).set_other 0 _ (by omega)).set_other 1 _ (by omega)).set_other 2 _ (by omega)).set_other 3 _ (by omega)).set_other 4 _ (by omega)).set_other 5 _ (by omega))
    have y1_wS : wS.cell? ⟨w.heap.size, 1, none⟩ = some (.int .i64 n.int) := X_wS.out.cell 1
    have y2_wS : wS.cell? ⟨w.heap.size, 2, none⟩ = some (.int .i64 n.scale) := X_wS.out.cell 2
    have z0_wS : wS.cell? ⟨g7, 0, none⟩ = some (.int .u64 h2) := K_wS.out.cell 0
    have z1_wS : wS.cell? ⟨g7, 1, none⟩ = some (.int .u64 l2) := K_wS.out.cell 1
    have z2_wS : wS.cell? ⟨g7, 2, none⟩ = some (.bool (!b2)) := K_wS.out.cell 2
    refine hK.out _ _ (⟨y1_wS, y2_wS, z0_wS, z1_wS, z2_wS⟩) (fun hHeld => ?_)
    clear hK K
    try simp only [Act.put, List.setIfInBounds_toArray, List.set_cons_zero, List.set_cons_succ]
    refine wpAnyH_take (i := 14) (oi := { dst := some 5, op := Go.Op.assign (Go.Operand.tmp 42), type := 26, pos := "decimal.go:119", after := #[{ on := 12, ground := Go.Ground.data }, { on := 13, ground := Go.Ground.chain }, { on := 0, ground := Go.Ground.phase }, { on := 1, ground := Go.Ground.phase }, { on := 2, ground := Go.Ground.phase }, { on := 3, ground := Go.Ground.phase }, { on := 4, ground := Go.Ground.phase }, { on := 5, ground := Go.Ground.phase }, { on := 6, ground := Go.Ground.phase }, { on := 7, ground := Go.Ground.phase }, { on := 8, ground := Go.Ground.phase }, { on := 9, ground := Go.Ground.phase }, { on := 10, ground := Go.Ground.phase }, { on := 11, ground := Go.Ground.phase }, { on := 12, ground := Go.Ground.phase }, { on := 13, ground := Go.Ground.phase }], guard := none }) (v := ?_) rfl (by kernel_rfl) (by kernel_rfl) (by kernel_rfl) (fun _ _ _ h => h) (Or.inl ⟨by rfl, ?_⟩) (by assumption) ?_
    rotate_left
    · (intro w hSw; (try dsimp only at hSw); go_simp; try with_reducible rfl)
    try simp only [Act.put, List.setIfInBounds_toArray, List.set_cons_zero, List.set_cons_succ]
    refine wpAnyH_done (by kernel_rfl) ?_ _
    all_goals (
      rw [← hwS]
      go_wp2_with fail
      exact ret6 Tryd.results18 rfl rfl R_v3.out (by omega) ST_v3.out.1 HV.out)
end Go.Proofs.YtfcbcbpnlnkpcaaDoor

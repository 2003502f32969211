/- decimal: Mul. (Printed by a small program of mine, gen/mkadd4.py.) -/
import Derived.Test.YtfcbcbpnlnkpcaaDoorQDecAdd
namespace Go.Proofs.YtfcbcbpnlnkpcaaDoor
set_option linter.all false
open Go.RowKit
theorem Blk.tri_set {wr : World} {g : Nat} {T : TypeId} {a0 a1 a2 v0 v1 v2 : Value} (h : Blk wr g #[a0, a1, a2] T) :
    Blk (((wr.setCell ⟨g, 0, none⟩ v0).setCell ⟨g, 1, none⟩ v1).setCell ⟨g, 2, none⟩ v2) g #[v0, v1, v2] T := by
  have := ((h.set 0 v0).set 1 v1).set 2 v2
  simpa using this
theorem of_nought (n : Int) (hn : I64 n) (w : World) : Calls Tryd.prog 31 #[.int .i64 n, .int .i64 0] w (Ret (.agg #[.int .u64 0, .int .u64 (n.natAbs : Int), .bool (decide (n < 0))]) w) := by
  have h := of_any n hn 0 (by decide) w
  rw [Nat.pow_zero, Nat.mul_one, Nat.div_eq_of_lt (by have := hn.1; have := hn.2; omega), Nat.mod_eq_of_lt (by have := hn.1; have := hn.2; omega)] at h
  exact h
theorem sg_two (n m : Int) : sg (decide (n < 0) != decide (m < 0)) (n.natAbs * m.natAbs) = n * m := by
  have e : ∀ x : Int, sg (decide (x < 0)) x.natAbs = x := fun x => by have := sg_mul x 0; simpa using this
  have e2 : ∀ (a b : Bool) (x y : Nat), sg (a != b) (x * y) = sg a x * sg b y := fun a b x y => by cases a <;> cases b <;> simp [sg, Int.mul_neg, Int.neg_mul]
  rw [e2, e, e]
set_option maxRecDepth 100000 in
set_option maxHeartbeats 6400000 in
theorem Mul_any (n : Nd) (k : F) (m : Nd) (q : F) (v u : Value) (w : World) (hv : Vo w (· < w.heap.size) n k v) (hu : Vo w (· < w.heap.size) m q u) :
    Calls Tryd.prog 16 #[v, u] w (Ret (if (numB n k && numB m q) = true then ansv (leastP (vN n * vN m) 36) else ansE) w) := by
  have hare : Hid (∀ (A : Option Addr) (w : World), Kids w (· < w.heap.size) A (.cons n k (.cons m q .nil)) → Calls Tryd.prog 36 #[.slice A 2 2] w (Ret (.bool (areF (.cons n k (.cons m q .nil)))) w)) := fun A w h => are_any A (.cons n k (.cons m q .nil)) w (by simp [F.len]) h
  obtain ⟨An, cn, Ak, ck, rfl, hok1, _, _, _, _⟩ := id hv
  obtain ⟨Bn, dn, Bk, dk, rfl, hok2, _, _, _, _⟩ := id hu
  have ST0 : St w [⟨w.heap.size, n, k, An, cn, Ak, ck⟩, ⟨w.heap.size + 1, m, q, Bn, dn, Bk, dk⟩] ((w.alloc (.cells #[.int .i64 n.kind, .int .i64 n.int, .int .i64 n.scale, .string (str n.text), .slice An n.names.length cn, .slice Ak k.len ck] 25)).alloc (.cells #[.int .i64 m.kind, .int .i64 m.int, .int .i64 m.scale, .string (str m.text), .slice Bn m.names.length dn, .slice Bk q.len dk] 25)) := by
    have := (St.box_new (St.box_new (St.nil w) hv) hu)
    simpa [ncells] using this
  have ST : St w [⟨w.heap.size, n, k, An, cn, Ak, ck⟩, ⟨w.heap.size + 1, m, q, Bn, dn, Bk, dk⟩] (((w.alloc (.cells #[.int .i64 n.kind, .int .i64 n.int, .int .i64 n.scale, .string (str n.text), .slice An n.names.length cn, .slice Ak k.len ck] 25)).alloc (.cells #[.int .i64 m.kind, .int .i64 m.int, .int .i64 m.scale, .string (str m.text), .slice Bn m.names.length dn, .slice Bk q.len dk] 25)).alloc (.cells #[.int .i64 0, .int .i64 0, .int .i64 0, .string ⟨#[]⟩, .slice none 0 0, .slice none 0 0] 25)) := ST0.step (below_ra _ _)
  have rb : Blk (((w.alloc (.cells #[.int .i64 n.kind, .int .i64 n.int, .int .i64 n.scale, .string (str n.text), .slice An n.names.length cn, .slice Ak k.len ck] 25)).alloc (.cells #[.int .i64 m.kind, .int .i64 m.int, .int .i64 m.scale, .string (str m.text), .slice Bn m.names.length dn, .slice Bk q.len dk] 25)).alloc (.cells #[.int .i64 0, .int .i64 0, .int .i64 0, .string ⟨#[]⟩, .slice none 0 0, .slice none 0 0] 25)) (w.heap.size + 1 + 1) #[.int .i64 0, .int .i64 0, .int .i64 0, .string ⟨#[]⟩, .slice none 0 0, .slice none 0 0] 25 := by
    have := Blk.new ((w.alloc (.cells #[.int .i64 n.kind, .int .i64 n.int, .int .i64 n.scale, .string (str n.text), .slice An n.names.length cn, .slice Ak k.len ck] 25)).alloc (.cells #[.int .i64 m.kind, .int .i64 m.int, .int .i64 m.scale, .string (str m.text), .slice Bn m.names.length dn, .slice Bk q.len dk] 25)) #[.int .i64 0, .int .i64 0, .int .i64 0, .string ⟨#[]⟩, .slice none 0 0, .slice none 0 0] 25
    simpa using this
  generalize hW : (((w.alloc (.cells #[.int .i64 n.kind, .int .i64 n.int, .int .i64 n.scale, .string (str n.text), .slice An n.names.length cn, .slice Ak k.len ck] 25)).alloc (.cells #[.int .i64 m.kind, .int .i64 m.int, .int .i64 m.scale, .string (str m.text), .slice Bn m.names.length dn, .slice Bk q.len dk] 25)).alloc (.cells #[.int .i64 0, .int .i64 0, .int .i64 0, .string ⟨#[]⟩, .slice none 0 0, .slice none 0 0] 25)) = W at *
  have hA : areF (.cons n k (.cons m q .nil)) = (numB n k && numB m q) := by simp [areF]
  rw [hA] at hare
  obtain ⟨V, hV⟩ : ∃ V, (if (numB n k && numB m q) = true then ansv (leastP (vN n * vN m) 36) else ansE) = V := ⟨_, rfl⟩
  rw [hV]
  have HVV := Lib.hid hV
  clear hV
  generalize hR : (numB n k && numB m q) = R at *
  have ST1 := Lib.hid ST
  have RB := Lib.hid rb
  obtain ⟨x00, x01, x02, x03, x04, x05⟩ : Six0 W w.heap.size n An cn Ak k.len ck := ST.six 0 rfl
  obtain ⟨x10, x11, x12, x13, x14, x15⟩ : Six0 W (w.heap.size + 1) m Bn dn Bk q.len dk := ST.six 1 rfl
  have xlt : w.heap.size + 1 + 1 < W.heap.size := rb.lt
  have HSC : Hid (R = true → (isNum n ∧ k = .nil) ∧ isNum m ∧ q = .nil) := fun e => by
    rw [← hR, Bool.and_eq_true] at e
    exact ⟨numB_num hok1 e.1, numB_num hok2 e.2⟩
  clear ST ST0 rb hv hu hA hR hok1 hok2
  unfold ncells
  go_enter Tryd.func16, Tryd.ntmps16
  go_wp2_with fail
  have hkd := kids_new (Vo.kc (ST1.out.v 0 rfl) (Vo.kc (ST1.out.v 1 rfl) (show Kc W (· < W.heap.size) F.nil [] from rfl))) (fun b hb => hb) 25
  generalize hWa : W.alloc (.cells #[.int .i64 n.kind, .int .i64 n.int, .int .i64 n.scale, .string (str n.text), .slice An n.names.length cn, .slice Ak k.len ck, .int .i64 m.kind, .int .i64 m.int, .int .i64 m.scale, .string (str m.text), .slice Bn m.names.length dn, .slice Bk q.len dk] 25) = Wa
  have ba : Below W.heap.size W Wa := by rw [← hWa]; exact below_ra _ _
  have HK : Hid (Kids Wa (· < Wa.heap.size) (some ⟨W.heap.size, 0, none⟩) (.cons n k (.cons m q .nil))) := by show Kids _ _ _ _; rw [← hWa]; simpa [ncells] using hkd
  clear hkd hWa x00 x01 x02 x03 x04 x05 x10 x11 x12 x13 x14 x15
  refine ((unhide hare) _ _ HK.out).mono ?_
  rintro e w4 ⟨rfl, b4⟩
  have b4' := bseq ba b4
  have ST4 := Lib.hid (ST1.out.step b4')
  have R4 : Hid (Blk w4 (w.heap.size + 1 + 1) #[.int .i64 0, .int .i64 0, .int .i64 0, .string ⟨#[]⟩, .slice none 0 0, .slice none 0 0] 25) := RB.out.below b4' xlt
  clear ST1 HK ba b4 b4' hW hare RB xlt
  rcases R with _ | _
  · have BW : Hid (Below w.heap.size w w4) := ST4.out.1
    have HN : Hid (V = ansE) := by show _ = _; rw [← HVV.out]; rfl
    have p0 : w4.cell? ⟨w.heap.size + 1 + 1, 0, none⟩ = some (.int .i64 0) := R4.out.cell 0
    have q_0 := R4.out.free 0
    have p1 : w4.cell? ⟨w.heap.size + 1 + 1, 1, none⟩ = some (.int .i64 0) := R4.out.cell 1
    have q_1 := R4.out.free 1
    have p2 : w4.cell? ⟨w.heap.size + 1 + 1, 2, none⟩ = some (.int .i64 0) := R4.out.cell 2
    have q_2 := R4.out.free 2
    have p3 : w4.cell? ⟨w.heap.size + 1 + 1, 3, none⟩ = some (.string ⟨#[]⟩) := R4.out.cell 3
    have q_3 := R4.out.free 3
    have p4 : w4.cell? ⟨w.heap.size + 1 + 1, 4, none⟩ = some (.slice none 0 0) := R4.out.cell 4
    have q_4 := R4.out.free 4
    have p5 : w4.cell? ⟨w.heap.size + 1 + 1, 5, none⟩ = some (.slice none 0 0) := R4.out.cell 5
    have q_5 := R4.out.free 5
    go_wp2_with fail
    exact ret6 Tryd.results16 rfl rfl R4.out (by omega) BW.out (by rw [HN.out]; rfl)
  · obtain ⟨⟨hn, rfl⟩, hm, rfl⟩ := HSC.out rfl
    have sn := hn.scale_le
    have sm := hm.scale_le
    obtain ⟨s1, s2, _⟩ := sn
    obtain ⟨t1, t2, _⟩ := sm
    obtain ⟨x00, x01, x02, x03, x04, x05⟩ : Six0 w4 w.heap.size n An cn Ak F.nil.len ck := ST4.out.six 0 rfl
    obtain ⟨x10, x11, x12, x13, x14, x15⟩ : Six0 w4 (w.heap.size + 1) m Bn dn Bk F.nil.len dk := ST4.out.six 1 rfl
    have HN := Lib.hid hn
    have HM := Lib.hid hm
    have HV : Hid (V = ansv (leastP (vN n * vN m) 36)) := by show _ = _; rw [← HVV.out]; rfl
    clear hn hm HVV
    go_upto_region 3 with fail
    have HS := Lib.hid (And.intro (And.intro s1 s2) (And.intro t1 t2))
    have HO1 : Hid (∀ w, Calls Tryd.prog 31 #[.int .i64 n.int, .int .i64 0] w (Ret (.agg #[.int .u64 0, .int .u64 (n.int.natAbs : Int), .bool (decide (n.int < 0))]) w)) := fun w => of_nought _ HN.out.2.2.1 w
    have HO2 : Hid (∀ w, Calls Tryd.prog 31 #[.int .i64 m.int, .int .i64 0] w (Ret (.agg #[.int .u64 0, .int .u64 (m.int.natAbs : Int), .bool (decide (m.int < 0))]) w)) := fun w => of_nought _ HM.out.2.2.1 w
    have ha : n.int.natAbs < 18446744073709551616 := by have := HN.out.2.2.1.1; have := HN.out.2.2.1.2; omega
    have hb : m.int.natAbs < 18446744073709551616 := by have := HM.out.2.2.1.1; have := HM.out.2.2.1.2; omega
    have HMU : Hid (∀ w, Calls Tryd.prog 38 #[.int .u64 (n.int.natAbs : Int), .int .u64 (m.int.natAbs : Int)] w (RetS (.tuple #[.int .u64 ((n.int.natAbs * m.int.natAbs / 18446744073709551616 : Nat) : Int), .int .u64 ((n.int.natAbs * m.int.natAbs % 18446744073709551616 : Nat) : Int)]) w)) := fun w => mul64_any _ _ ha hb w
    obtain ⟨A, HA⟩ : ∃ A : Nat, Hid (A = n.int.natAbs * m.int.natAbs / 18446744073709551616) := ⟨_, rfl⟩
    obtain ⟨B, HB⟩ : ∃ B : Nat, Hid (B = n.int.natAbs * m.int.natAbs % 18446744073709551616) := ⟨_, rfl⟩
    have HL : Hid (∀ (w : World), Calls Tryd.prog 32 #[.agg #[.int .u64 A, .int .u64 B, .bool (decide (n.int < 0) != decide (m.int < 0))], .int .i64 (n.scale + m.scale)] w (Ret V w)) := fun w => by
      have hwd : WideIs (.agg #[.int .u64 A, .int .u64 B, .bool (decide (n.int < 0) != decide (m.int < 0))]) (n.int * m.int) := ⟨A, B, _, rfl, by
        rw [HA.out]; exact Nat.div_lt_of_lt_mul (Nat.mul_lt_mul'' ha hb), by rw [HB.out]; exact Nat.mod_lt _ (by decide), by
        rw [← sg_two, HA.out, HB.out]
        congr 1
        omega⟩
      have h := least_any _ _ hwd (n.scale.toNat + m.scale.toNat) (by omega) w
      rw [leastP_mul HN.out HM.out, show ((n.scale.toNat + m.scale.toNat : Nat) : Int) = n.scale + m.scale from by omega] at h
      rw [HV.out]
      exact h
    rw [← HA.out, ← HB.out] at HMU
    obtain ⟨x0, x1, x2, xs, ee, hform⟩ := ansv_form (leastP (vN n * vN m) 36)
    rw [hform] at HV
    rw [HV.out] at HL
    generalize n.int.natAbs = a at *
    generalize m.int.natAbs = b at *
    generalize decide (n.int < 0) = b1 at *
    generalize decide (m.int < 0) = b2 at *
    clear hform x00 x01 x02 x03 x04 x05 x10 x11 x12 x13 x14 x15 HSC ha hb HA HB
    generalize w4 = wu at *
    have ST_v0 : Hid (St w [⟨w.heap.size, n, .nil, An, cn, Ak, ck⟩, ⟨w.heap.size + 1, m, .nil, Bn, dn, Bk, dk⟩] wu.drew) := ST4.out.drew
    have R_v0 : Hid (Blk wu.drew (w.heap.size + 1 + 1) #[.int .i64 0, .int .i64 0, .int .i64 0, .string ⟨#[]⟩, .slice none 0 0, .slice none 0 0] 25) := R4.out
    have y1_v0 : wu.drew.cell? ⟨w.heap.size, 1, none⟩ = some (.int .i64 n.int) := (ST_v0.out.six 0 rfl).2.1
    have y3_v0 : wu.drew.cell? ⟨w.heap.size + 1, 1, none⟩ = some (.int .i64 m.int) := (ST_v0.out.six 1 rfl).2.1
    refine wp_region_held_drew (S := fun w' => w'.cell? ⟨w.heap.size, 1, none⟩ = some (.int .i64 n.int) ∧ w'.cell? ⟨w.heap.size + 1, 1, none⟩ = some (.int .i64 m.int)) (by kernel_rfl) (⟨y1_v0, y3_v0⟩) (fun hHeld => ?_)
    generalize wu.drew = v0w at *
    refine wpAnyH_take (i := 0) (oi := { dst := some 16, op := Go.Op.fieldAddr 25 (Go.Operand.tmp 2) 1, type := 0, pos := "decimal.go:127", after := #[], guard := none }) (v := ?_) rfl (by kernel_rfl) (by kernel_rfl) (by kernel_rfl) (fun _ _ _ h => h) (Or.inl ⟨by rfl, ?_⟩) (by assumption) ?_
    rotate_left
    · (intro w hSw; (try dsimp only at hSw); go_simp; try with_reducible rfl)
    try simp only [Act.put, List.setIfInBounds_toArray, List.set_cons_zero, List.set_cons_succ]
    refine wpAnyH_take (i := 1) (oi := { dst := some 17, op := Go.Op.load 3 (Go.Operand.tmp 16), type := 3, pos := "decimal.go:127", after := #[{ on := 0, ground := Go.Ground.data }], guard := none }) (v := ?_) rfl (by kernel_rfl) (by kernel_rfl) (by kernel_rfl) (fun _ _ _ h => h) (Or.inl ⟨by rfl, ?_⟩) (by assumption) ?_
    rotate_left
    · (intro w hSw; (try dsimp only at hSw); go_simp; try with_reducible rfl)
    try simp only [Act.put, List.setIfInBounds_toArray, List.set_cons_zero, List.set_cons_succ]
    refine wpAnyH_take (i := 3) (oi := { dst := some 19, op := Go.Op.fieldAddr 25 (Go.Operand.tmp 3) 1, type := 0, pos := "decimal.go:127", after := #[], guard := none }) (v := ?_) rfl (by kernel_rfl) (by kernel_rfl) (by kernel_rfl) (fun _ _ _ h => h) (Or.inl ⟨by rfl, ?_⟩) (by assumption) ?_
    rotate_left
    · (intro w hSw; (try dsimp only at hSw); go_simp; try with_reducible rfl)
    try simp only [Act.put, List.setIfInBounds_toArray, List.set_cons_zero, List.set_cons_succ]
    refine wpAnyH_take (i := 4) (oi := { dst := some 20, op := Go.Op.load 3 (Go.Operand.tmp 19), type := 3, pos := "decimal.go:127", after := #[{ on := 3, ground := Go.Ground.data }], guard := none }) (v := ?_) rfl (by kernel_rfl) (by kernel_rfl) (by kernel_rfl) (fun _ _ _ h => h) (Or.inl ⟨by rfl, ?_⟩) (by assumption) ?_
    rotate_left
    · (intro w hSw; (try dsimp only at hSw); go_simp; try with_reducible rfl)
    try simp only [Act.put, List.setIfInBounds_toArray, List.set_cons_zero, List.set_cons_succ]
    refine wpAnyH_ready (rs := [2, 6, 7]) (by kernel_rfl) (by simp) ?_
    refine AllReadyH.cons (o := { dst := some 18, op := Go.Op.call { callee := Go.Callee.value (Go.Operand.func 31), args := #[Go.Operand.tmp 17, Go.Operand.const (Go.Value.int Go.IntKind.i64 0)], argTypes := #[3, 3] }, type := 55, pos := "decimal.go:127", after := #[{ on := 1, ground := Go.Ground.data }], guard := none }) rfl (fun K hK => ?_) ?_
    go_simp
    refine (HO1.out _).mono ?_
    rintro e v1 ⟨rfl, b_v1⟩
    have ST_v1 : Hid (St w [⟨w.heap.size, n, .nil, An, cn, Ak, ck⟩, ⟨w.heap.size + 1, m, .nil, Bn, dn, Bk, dk⟩] v1) := ST_v0.out.step b_v1
    have R_v1 : Hid (Blk v1 (w.heap.size + 1 + 1) #[.int .i64 0, .int .i64 0, .int .i64 0, .string ⟨#[]⟩, .slice none 0 0, .slice none 0 0] 25) := R_v0.out.below b_v1 R_v0.out.lt
    have y1_v1 : v1.cell? ⟨w.heap.size, 1, none⟩ = some (.int .i64 n.int) := (ST_v1.out.six 0 rfl).2.1
    have y3_v1 : v1.cell? ⟨w.heap.size + 1, 1, none⟩ = some (.int .i64 m.int) := (ST_v1.out.six 1 rfl).2.1
    go_wp2_with fail
    refine hK.out _ _ (⟨y1_v1, y3_v1⟩) (fun hHeld => ?_)
    clear hK K
    try simp only [Act.put, List.setIfInBounds_toArray, List.set_cons_zero, List.set_cons_succ]
    refine wpAnyH_ready (rs := [5, 6, 7]) (by kernel_rfl) (by simp) ?_
    refine AllReadyH.cons (o := { dst := some 21, op := Go.Op.call { callee := Go.Callee.value (Go.Operand.func 31), args := #[Go.Operand.tmp 20, Go.Operand.const (Go.Value.int Go.IntKind.i64 0)], argTypes := #[3, 3] }, type := 55, pos := "decimal.go:127", after := #[{ on := 4, ground := Go.Ground.data }, { on := 2, ground := Go.Ground.chain }], guard := none }) rfl (fun K hK => ?_) ?_
    go_simp
    refine (HO2.out _).mono ?_
    rintro e v2 ⟨rfl, b_v2⟩
    have ST_v2 : Hid (St w [⟨w.heap.size, n, .nil, An, cn, Ak, ck⟩, ⟨w.heap.size + 1, m, .nil, Bn, dn, Bk, dk⟩] v2) := ST_v1.out.step b_v2
    have R_v2 : Hid (Blk v2 (w.heap.size + 1 + 1) #[.int .i64 0, .int .i64 0, .int .i64 0, .string ⟨#[]⟩, .slice none 0 0, .slice none 0 0] 25) := R_v1.out.below b_v2 R_v1.out.lt
    have y1_v2 : v2.cell? ⟨w.heap.size, 1, none⟩ = some (.int .i64 n.int) := (ST_v2.out.six 0 rfl).2.1
    have y3_v2 : v2.cell? ⟨w.heap.size + 1, 1, none⟩ = some (.int .i64 m.int) := (ST_v2.out.six 1 rfl).2.1
    go_wp2_with fail
    refine hK.out _ _ (⟨y1_v2, y3_v2⟩) (fun hHeld => ?_)
    clear hK K
    try simp only [Act.put, List.setIfInBounds_toArray, List.set_cons_zero, List.set_cons_succ]
    refine wpAnyH_ready (rs := [6, 7]) (by kernel_rfl) (by simp) ?_
    refine AllReadyH.cons (o := { dst := some 6, op := Go.Op.alloc 55, type := 0, pos := "decimal.go:127", after := #[], guard := none }) rfl (fun K hK => ?_) ?_
    go_simp
    obtain ⟨v3, h_v3⟩ : ∃ v, v2.alloc (.cells #[.int .u64 0, .int .u64 0, .bool false] 55) = v := ⟨_, rfl⟩
    rw [h_v3]
    have b_v3 : Below v2.heap.size v2 v3 := by rw [← h_v3]; exact below_ra _ _
    have ST_v3 : Hid (St w [⟨w.heap.size, n, .nil, An, cn, Ak, ck⟩, ⟨w.heap.size + 1, m, .nil, Bn, dn, Bk, dk⟩] v3) := ST_v2.out.step b_v3
    have R_v3 : Hid (Blk v3 (w.heap.size + 1 + 1) #[.int .i64 0, .int .i64 0, .int .i64 0, .string ⟨#[]⟩, .slice none 0 0, .slice none 0 0] 25) := R_v2.out.below b_v3 R_v2.out.lt
    have K6_v3 : Hid (Blk v3 v2.heap.size #[.int .u64 0, .int .u64 0, .bool false] 55) := by show Blk _ _ _ _; rw [← h_v3]; exact Blk.new _ _ _
    have hg6 : w.heap.size + 1 + 1 < v2.heap.size := R_v2.out.lt
    have y1_v3 : v3.cell? ⟨w.heap.size, 1, none⟩ = some (.int .i64 n.int) := (ST_v3.out.six 0 rfl).2.1
    have y3_v3 : v3.cell? ⟨w.heap.size + 1, 1, none⟩ = some (.int .i64 m.int) := (ST_v3.out.six 1 rfl).2.1
    refine hK.out _ _ (⟨y1_v3, y3_v3⟩) (fun hHeld => ?_)
    clear hK K
    try simp only [Act.put, List.setIfInBounds_toArray, List.set_cons_zero, List.set_cons_succ]
    refine wpAnyH_ready (rs := [7]) (by kernel_rfl) (by simp) ?_
    refine AllReadyH.cons (o := { dst := some 7, op := Go.Op.alloc 55, type := 0, pos := "decimal.go:127", after := #[], guard := none }) rfl (fun K hK => ?_) AllReadyH.nil
    go_simp
    obtain ⟨v4, h_v4⟩ : ∃ v, v3.alloc (.cells #[.int .u64 0, .int .u64 0, .bool false] 55) = v := ⟨_, rfl⟩
    rw [h_v4]
    have b_v4 : Below v3.heap.size v3 v4 := by rw [← h_v4]; exact below_ra _ _
    have ST_v4 : Hid (St w [⟨w.heap.size, n, .nil, An, cn, Ak, ck⟩, ⟨w.heap.size + 1, m, .nil, Bn, dn, Bk, dk⟩] v4) := ST_v3.out.step b_v4
    have R_v4 : Hid (Blk v4 (w.heap.size + 1 + 1) #[.int .i64 0, .int .i64 0, .int .i64 0, .string ⟨#[]⟩, .slice none 0 0, .slice none 0 0] 25) := R_v3.out.below b_v4 R_v3.out.lt
    have K6_v4 : Hid (Blk v4 v2.heap.size #[.int .u64 0, .int .u64 0, .bool false] 55) := K6_v3.out.below b_v4 K6_v3.out.lt
    have K7_v4 : Hid (Blk v4 v3.heap.size #[.int .u64 0, .int .u64 0, .bool false] 55) := by show Blk _ _ _ _; rw [← h_v4]; exact Blk.new _ _ _
    have hne : v2.heap.size ≠ v3.heap.size := by have := K6_v3.out.lt; omega
    have hg7 : w.heap.size + 1 + 1 < v3.heap.size := R_v3.out.lt
    have y1_v4 : v4.cell? ⟨w.heap.size, 1, none⟩ = some (.int .i64 n.int) := (ST_v4.out.six 0 rfl).2.1
    have y3_v4 : v4.cell? ⟨w.heap.size + 1, 1, none⟩ = some (.int .i64 m.int) := (ST_v4.out.six 1 rfl).2.1
    refine hK.out _ _ (⟨y1_v4, y3_v4⟩) (fun hHeld => ?_)
    clear hK K
    try simp only [Act.put, List.setIfInBounds_toArray, List.set_cons_zero, List.set_cons_succ]
    refine wpAnyH_ready (rs := [8]) (by kernel_rfl) (by simp) ?_
    refine AllReadyH.cons (o := { dst := none, op := Go.Op.store 55 (Go.Operand.tmp 6) (Go.Operand.tmp 18), type := 0, pos := "decimal.go:127", after := #[{ on := 6, ground := Go.Ground.data }, { on := 2, ground := Go.Ground.data }, { on := 5, ground := Go.Ground.chain }, { on := 0, ground := Go.Ground.phase }, { on := 1, ground := Go.Ground.phase }, { on := 2, ground := Go.Ground.phase }, { on := 3, ground := Go.Ground.textOnly Go.Departure.lateStores }, { on := 4, ground := Go.Ground.textOnly Go.Departure.lateStores }, { on := 5, ground := Go.Ground.textOnly Go.Departure.lateStoresUnsure }, { on := 6, ground := Go.Ground.phase }, { on := 7, ground := Go.Ground.phase }], guard := none }) rfl (fun K hK => ?_) AllReadyH.nil
    have s0 : v4.cell? ⟨v2.heap.size, 0, none⟩ = some (.int .u64 0) := K6_v4.out.cell 0
    have s_0 := K6_v4.out.free 0
    have s1 : v4.cell? ⟨v2.heap.size, 1, none⟩ = some (.int .u64 0) := K6_v4.out.cell 1
    have s_1 := K6_v4.out.free 1
    have s2 : v4.cell? ⟨v2.heap.size, 2, none⟩ = some (.bool false) := K6_v4.out.cell 2
    have s_2 := K6_v4.out.free 2
    go_simp
    obtain ⟨v5, h_v5⟩ : ∃ v, (((v4.setCell ⟨v2.heap.size, 0, none⟩ (.int .u64 0)).setCell ⟨v2.heap.size, 1, none⟩ (.int .u64 (a : Int))).setCell ⟨v2.heap.size, 2, none⟩ (.bool b1)) = v := ⟨_, rfl⟩
    rw [h_v5]
    clear s0 s1 s2 s_0 s_1 s_2
    have X1_v5 : Hid (Blk v5 w.heap.size (ncells n An cn Ak F.nil.len ck).toArray 25) := by show Blk _ _ _ _; rw [← h_v5]; exact ((((show Blk v4 w.heap.size (ncells n An cn Ak F.nil.len ck).toArray 25 from (ST_v4.out.box 0 rfl).1).set_other 0 _ (by omega)).set_other 1 _ (by omega)).set_other 2 _ (by omega))
    have X2_v5 : Hid (Blk v5 (w.heap.size + 1) (ncells m Bn dn Bk F.nil.len dk).toArray 25) := by show Blk _ _ _ _; rw [← h_v5]; exact ((((show Blk v4 (w.heap.size + 1) (ncells m Bn dn Bk F.nil.len dk).toArray 25 from (ST_v4.out.box 1 rfl).1).set_other 0 _ (by omega)).set_other 1 _ (by omega)).set_other 2 _ (by omega))
    have R_v5 : Hid (Blk v5 (w.heap.size + 1 + 1) #[.int .i64 0, .int .i64 0, .int .i64 0, .string ⟨#[]⟩, .slice none 0 0, .slice none 0 0] 25) := by show Blk _ _ _ _; rw [← h_v5]; exact (((R_v4.out.set_other 0 _ (by omega)).set_other 1 _ (by omega)).set_other 2 _ (by omega))
    have BW_v5 : Hid (Below w.heap.size w v5) := by show Below _ _ _; rw [← h_v5]; exact ((ST_v4.out.1.setCell (by show _ ≤ v2.heap.size; omega) _).setCell (by show _ ≤ v2.heap.size; omega) _).setCell (by show _ ≤ v2.heap.size; omega) _
    have K6_v5 : Hid (Blk v5 v2.heap.size #[.int .u64 0, .int .u64 (a : Int), .bool b1] 55) := by show Blk _ _ _ _; rw [← h_v5]; exact Blk.tri_set K6_v4.out
    have K7_v5 : Hid (Blk v5 v3.heap.size #[.int .u64 0, .int .u64 0, .bool false] 55) := by show Blk _ _ _ _; rw [← h_v5]; exact (((K7_v4.out.set_other 0 _ (by omega)).set_other 1 _ (by omega)).set_other 2 _ (by omega))
    have y1_v5 : v5.cell? ⟨w.heap.size, 1, none⟩ = some (.int .i64 n.int) := X1_v5.out.cell 1
    have y3_v5 : v5.cell? ⟨w.heap.size + 1, 1, none⟩ = some (.int .i64 m.int) := X2_v5.out.cell 1
    refine hK.out _ _ (⟨y1_v5, y3_v5⟩) (fun hHeld => ?_)
    clear hK K
    try simp only [Act.put, List.setIfInBounds_toArray, List.set_cons_zero, List.set_cons_succ]
    refine wpAnyH_ready (rs := [9]) (by kernel_rfl) (by simp) ?_
    refine AllReadyH.cons (o := { dst := none, op := Go.Op.store 55 (Go.Operand.tmp 7) (Go.Operand.tmp 21), type := 0, pos := "decimal.go:127", after := #[{ on := 7, ground := Go.Ground.data }, { on := 5, ground := Go.Ground.data }, { on := 8, ground := Go.Ground.chain }, { on := 0, ground := Go.Ground.phase }, { on := 1, ground := Go.Ground.phase }, { on := 2, ground := Go.Ground.phase }, { on := 3, ground := Go.Ground.phase }, { on := 4, ground := Go.Ground.phase }, { on := 5, ground := Go.Ground.phase }, { on := 6, ground := Go.Ground.phase }, { on := 7, ground := Go.Ground.phase }, { on := 8, ground := Go.Ground.phase }], guard := none }) rfl (fun K hK => ?_) AllReadyH.nil
    have s0 : v5.cell? ⟨v3.heap.size, 0, none⟩ = some (.int .u64 0) := K7_v5.out.cell 0
    have s_0 := K7_v5.out.free 0
    have s1 : v5.cell? ⟨v3.heap.size, 1, none⟩ = some (.int .u64 0) := K7_v5.out.cell 1
    have s_1 := K7_v5.out.free 1
    have s2 : v5.cell? ⟨v3.heap.size, 2, none⟩ = some (.bool false) := K7_v5.out.cell 2
    have s_2 := K7_v5.out.free 2
    go_simp
    obtain ⟨v6, h_v6⟩ : ∃ v, (((v5.setCell ⟨v3.heap.size, 0, none⟩ (.int .u64 0)).setCell ⟨v3.heap.size, 1, none⟩ (.int .u64 (b : Int))).setCell ⟨v3.heap.size, 2, none⟩ (.bool b2)) = v := ⟨_, rfl⟩
    rw [h_v6]
    clear s0 s1 s2 s_0 s_1 s_2
    have X1_v6 : Hid (Blk v6 w.heap.size (ncells n An cn Ak F.nil.len ck).toArray 25) := by show Blk _ _ _ _; rw [← h_v6]; exact ((((show Blk v5 w.heap.size (ncells n An cn Ak F.nil.len ck).toArray 25 from X1_v5.out).set_other 0 _ (by omega)).set_other 1 _ (by omega)).set_other 2 _ (by omega))
    have X2_v6 : Hid (Blk v6 (w.heap.size + 1) (ncells m Bn dn Bk F.nil.len dk).toArray 25) := by show Blk _ _ _ _; rw [← h_v6]; exact ((((show Blk v5 (w.heap.size + 1) (ncells m Bn dn Bk F.nil.len dk).toArray 25 from X2_v5.out).set_other 0 _ (by omega)).set_other 1 _ (by omega)).set_other 2 _ (by omega))
    have R_v6 : Hid (Blk v6 (w.heap.size + 1 + 1) #[.int .i64 0, .int .i64 0, .int .i64 0, .string ⟨#[]⟩, .slice none 0 0, .slice none 0 0] 25) := by show Blk _ _ _ _; rw [← h_v6]; exact (((R_v5.out.set_other 0 _ (by omega)).set_other 1 _ (by omega)).set_other 2 _ (by omega))
    have BW_v6 : Hid (Below w.heap.size w v6) := by show Below _ _ _; rw [← h_v6]; exact ((BW_v5.out.setCell (by show _ ≤ v3.heap.size; omega) _).setCell (by show _ ≤ v3.heap.size; omega) _).setCell (by show _ ≤ v3.heap.size; omega) _
    have K7_v6 : Hid (Blk v6 v3.heap.size #[.int .u64 0, .int .u64 (b : Int), .bool b2] 55) := by show Blk _ _ _ _; rw [← h_v6]; exact Blk.tri_set K7_v5.out
    have K6_v6 : Hid (Blk v6 v2.heap.size #[.int .u64 0, .int .u64 (a : Int), .bool b1] 55) := by show Blk _ _ _ _; rw [← h_v6]; exact (((K6_v5.out.set_other 0 _ (by omega)).set_other 1 _ (by omega)).set_other 2 _ (by omega))
    have y1_v6 : v6.cell? ⟨w.heap.size, 1, none⟩ = some (.int .i64 n.int) := X1_v6.out.cell 1
    have y3_v6 : v6.cell? ⟨w.heap.size + 1, 1, none⟩ = some (.int .i64 m.int) := X2_v6.out.cell 1
    have FIN : ∃ (wz : World) (g6 g7 : Nat), wz = v6 ∧ g6 = v2.heap.size ∧ g7 = v3.heap.size := ⟨_, _, _, rfl, rfl, rfl⟩
    have FINH : Hid (Blk v6 w.heap.size (ncells n An cn Ak F.nil.len ck).toArray 25 ∧ Blk v6 (w.heap.size + 1) (ncells m Bn dn Bk F.nil.len dk).toArray 25 ∧ Blk v6 (w.heap.size + 1 + 1) #[.int .i64 0, .int .i64 0, .int .i64 0, .string ⟨#[]⟩, .slice none 0 0, .slice none 0 0] 25 ∧ Below w.heap.size w v6 ∧ Blk v6 v2.heap.size #[.int .u64 0, .int .u64 (a : Int), .bool b1] 55 ∧ Blk v6 v3.heap.size #[.int .u64 0, .int .u64 (b : Int), .bool b2] 55) := ⟨X1_v6.out, X2_v6.out, R_v6.out, BW_v6.out, K6_v6.out, K7_v6.out⟩
    have e1 : v6.cell? ⟨v2.heap.size, 1, none⟩ = some (.int .u64 (a : Int)) := K6_v6.out.cell 1
    have e2 : v6.cell? ⟨v2.heap.size, 2, none⟩ = some (.bool b1) := K6_v6.out.cell 2
    have e3 : v6.cell? ⟨v3.heap.size, 1, none⟩ = some (.int .u64 (b : Int)) := K7_v6.out.cell 1
    have e4 : v6.cell? ⟨v3.heap.size, 2, none⟩ = some (.bool b2) := K7_v6.out.cell 2
    have e5 : v6.cell? ⟨w.heap.size, 2, none⟩ = some (.int .i64 n.scale) := X1_v6.out.cell 2
    have e6 : v6.cell? ⟨w.heap.size + 1, 2, none⟩ = some (.int .i64 m.scale) := X2_v6.out.cell 2
    refine hK.out _ _ (⟨y1_v6, y3_v6⟩) (fun hHeld => ?_)
    clear hK K
    try simp only [Act.put, List.setIfInBounds_toArray, List.set_cons_zero, List.set_cons_succ]
    refine wpAnyH_done (by kernel_rfl) ?_ _
    rotate_left 1
    refine AllReadyH.cons (o := { dst := some 7, op := Go.Op.alloc 55, type := 0, pos := "decimal.go:127", after := #[], guard := none }) rfl (fun K hK => ?_) AllReadyH.nil
    go_simp
    obtain ⟨v7, h_v7⟩ : ∃ v, v2.alloc (.cells #[.int .u64 0, .int .u64 0, .bool false] 55) = v := ⟨_, rfl⟩
    rw [h_v7]
    have b_v7 : Below v2.heap.size v2 v7 := by rw [← h_v7]; exact below_ra _ _
    have ST_v7 : Hid (St w [⟨w.heap.size, n, .nil, An, cn, Ak, ck⟩, ⟨w.heap.size + 1, m, .nil, Bn, dn, Bk, dk⟩] v7) := ST_v2.out.step b_v7
    have R_v7 : Hid (Blk v7 (w.heap.size + 1 + 1) #[.int .i64 0, .int .i64 0, .int .i64 0, .string ⟨#[]⟩, .slice none 0 0, .slice none 0 0] 25) := R_v2.out.below b_v7 R_v2.out.lt
    have K7_v7 : Hid (Blk v7 v2.heap.size #[.int .u64 0, .int .u64 0, .bool false] 55) := by show Blk _ _ _ _; rw [← h_v7]; exact Blk.new _ _ _
    have hg7 : w.heap.size + 1 + 1 < v2.heap.size := R_v2.out.lt
    have y1_v7 : v7.cell? ⟨w.heap.size, 1, none⟩ = some (.int .i64 n.int) := (ST_v7.out.six 0 rfl).2.1
    have y3_v7 : v7.cell? ⟨w.heap.size + 1, 1, none⟩ = some (.int .i64 m.int) := (ST_v7.out.six 1 rfl).2.1
    refine hK.out _ _ (⟨y1_v7, y3_v7⟩) (fun hHeld => ?_)
    clear hK K
    try simp only [Act.put, List.setIfInBounds_toArray, List.set_cons_zero, List.set_cons_succ]
    refine wpAnyH_ready (rs := [6]) (by kernel_rfl) (by simp) ?_
    refine AllReadyH.cons (o := { dst := some 6, op := Go.Op.alloc 55, type := 0, pos := "decimal.go:127", after := #[], guard := none }) rfl (fun K hK => ?_) AllReadyH.nil
    go_simp
    obtain ⟨v8, h_v8⟩ : ∃ v, v7.alloc (.cells #[.int .u64 0, .int .u64 0, .bool false] 55) = v := ⟨_, rfl⟩
    rw [h_v8]
    have b_v8 : Below v7.heap.size v7 v8 := by rw [← h_v8]; exact below_ra _ _
    have ST_v8 : Hid (St w [⟨w.heap.size, n, .nil, An, cn, Ak, ck⟩, ⟨w.heap.size + 1, m, .nil, Bn, dn, Bk, dk⟩] v8) := ST_v7.out.step b_v8
    have R_v8 : Hid (Blk v8 (w.heap.size + 1 + 1) #[.int .i64 0, .int .i64 0, .int .i64 0, .string ⟨#[]⟩, .slice none 0 0, .slice none 0 0] 25) := R_v7.out.below b_v8 R_v7.out.lt
    have K7_v8 : Hid (Blk v8 v2.heap.size #[.int .u64 0, .int .u64 0, .bool false] 55) := K7_v7.out.below b_v8 K7_v7.out.lt
    have K6_v8 : Hid (Blk v8 v7.heap.size #[.int .u64 0, .int .u64 0, .bool false] 55) := by show Blk _ _ _ _; rw [← h_v8]; exact Blk.new _ _ _
    have hne : v7.heap.size ≠ v2.heap.size := by have := K7_v7.out.lt; omega
    have hg6 : w.heap.size + 1 + 1 < v7.heap.size := R_v7.out.lt
    have y1_v8 : v8.cell? ⟨w.heap.size, 1, none⟩ = some (.int .i64 n.int) := (ST_v8.out.six 0 rfl).2.1
    have y3_v8 : v8.cell? ⟨w.heap.size + 1, 1, none⟩ = some (.int .i64 m.int) := (ST_v8.out.six 1 rfl).2.1
    refine hK.out _ _ (⟨y1_v8, y3_v8⟩) (fun hHeld => ?_)
    clear hK K
    try simp only [Act.put, List.setIfInBounds_toArray, List.set_cons_zero, List.set_cons_succ]
    refine wpAnyH_ready (rs := [8]) (by kernel_rfl) (by simp) ?_
    refine AllReadyH.cons (o := { dst := none, op := Go.Op.store 55 (Go.Operand.tmp 6) (Go.Operand.tmp 18), type := 0, pos := "decimal.go:127", after := #[{ on := 6, ground := Go.Ground.data }, { on := 2, ground := Go.Ground.data }, { on := 5, ground := Go.Ground.chain }, { on := 0, ground := Go.Ground.phase }, { on := 1, ground := Go.Ground.phase }, { on := 2, ground := Go.Ground.phase }, { on := 3, ground := Go.Ground.textOnly Go.Departure.lateStores }, { on := 4, ground := Go.Ground.textOnly Go.Departure.lateStores }, { on := 5, ground := Go.Ground.textOnly Go.Departure.lateStoresUnsure }, { on := 6, ground := Go.Ground.phase }, { on := 7, ground := Go.Ground.phase }], guard := none }) rfl (fun K hK => ?_) AllReadyH.nil
    have s0 : v8.cell? ⟨v7.heap.size, 0, none⟩ = some (.int .u64 0) := K6_v8.out.cell 0
    have s_0 := K6_v8.out.free 0
    have s1 : v8.cell? ⟨v7.heap.size, 1, none⟩ = some (.int .u64 0) := K6_v8.out.cell 1
    have s_1 := K6_v8.out.free 1
    have s2 : v8.cell? ⟨v7.heap.size, 2, none⟩ = some (.bool false) := K6_v8.out.cell 2
    have s_2 := K6_v8.out.free 2
    go_simp
    obtain ⟨v9, h_v9⟩ : ∃ v, (((v8.setCell ⟨v7.heap.size, 0, none⟩ (.int .u64 0)).setCell ⟨v7.heap.size, 1, none⟩ (.int .u64 (a : Int))).setCell ⟨v7.heap.size, 2, none⟩ (.bool b1)) = v := ⟨_, rfl⟩
    rw [h_v9]
    clear s0 s1 s2 s_0 s_1 s_2
    have X1_v9 : Hid (Blk v9 w.heap.size (ncells n An cn Ak F.nil.len ck).toArray 25) := by show Blk _ _ _ _; rw [← h_v9]; exact ((((show Blk v8 w.heap.size (ncells n An cn Ak F.nil.len ck).toArray 25 from (ST_v8.out.box 0 rfl).1).set_other 0 _ (by omega)).set_other 1 _ (by omega)).set_other 2 _ (by omega))
    have X2_v9 : Hid (Blk v9 (w.heap.size + 1) (ncells m Bn dn Bk F.nil.len dk).toArray 25) := by show Blk _ _ _ _; rw [← h_v9]; exact ((((show Blk v8 (w.heap.size + 1) (ncells m Bn dn Bk F.nil.len dk).toArray 25 from (ST_v8.out.box 1 rfl).1).set_other 0 _ (by omega)).set_other 1 _ (by omega)).set_other 2 _ (by omega))
    have R_v9 : Hid (Blk v9 (w.heap.size + 1 + 1) #[.int .i64 0, .int .i64 0, .int .i64 0, .string ⟨#[]⟩, .slice none 0 0, .slice none 0 0] 25) := by show Blk _ _ _ _; rw [← h_v9]; exact (((R_v8.out.set_other 0 _ (by omega)).set_other 1 _ (by omega)).set_other 2 _ (by omega))
    have BW_v9 : Hid (Below w.heap.size w v9) := by show Below _ _ _; rw [← h_v9]; exact ((ST_v8.out.1.setCell (by show _ ≤ v7.heap.size; omega) _).setCell (by show _ ≤ v7.heap.size; omega) _).setCell (by show _ ≤ v7.heap.size; omega) _
    have K6_v9 : Hid (Blk v9 v7.heap.size #[.int .u64 0, .int .u64 (a : Int), .bool b1] 55) := by show Blk _ _ _ _; rw [← h_v9]; exact Blk.tri_set K6_v8.out
    have K7_v9 : Hid (Blk v9 v2.heap.size #[.int .u64 0, .int .u64 0, .bool false] 55) := by show Blk _ _ _ _; rw [← h_v9]; exact (((K7_v8.out.set_other 0 _ (by omega)).set_other 1 _ (by omega)).set_other 2 _ (by omega))
    have y1_v9 : v9.cell? ⟨w.heap.size, 1, none⟩ = some (.int .i64 n.int) := X1_v9.out.cell 1
    have y3_v9 : v9.cell? ⟨w.heap.size + 1, 1, none⟩ = some (.int .i64 m.int) := X2_v9.out.cell 1
    refine hK.out _ _ (⟨y1_v9, y3_v9⟩) (fun hHeld => ?_)
    clear hK K
    try simp only [Act.put, List.setIfInBounds_toArray, List.set_cons_zero, List.set_cons_succ]
    refine wpAnyH_ready (rs := [9]) (by kernel_rfl) (by simp) ?_
    refine AllReadyH.cons (o := { dst := none, op := Go.Op.store 55 (Go.Operand.tmp 7) (Go.Operand.tmp 21), type := 0, pos := "decimal.go:127", after := #[{ on := 7, ground := Go.Ground.data }, { on := 5, ground := Go.Ground.data }, { on := 8, ground := Go.Ground.chain }, { on := 0, ground := Go.Ground.phase }, { on := 1, ground := Go.Ground.phase }, { on := 2, ground := Go.Ground.phase }, { on := 3, ground := Go.Ground.phase }, { on := 4, ground := Go.Ground.phase }, { on := 5, ground := Go.Ground.phase }, { on := 6, ground := Go.Ground.phase }, { on := 7, ground := Go.Ground.phase }, { on := 8, ground := Go.Ground.phase }], guard := none }) rfl (fun K hK => ?_) AllReadyH.nil
    have s0 : v9.cell? ⟨v2.heap.size, 0, none⟩ = some (.int .u64 0) := K7_v9.out.cell 0
    have s_0 := K7_v9.out.free 0
    have s1 : v9.cell? ⟨v2.heap.size, 1, none⟩ = some (.int .u64 0) := K7_v9.out.cell 1
    have s_1 := K7_v9.out.free 1
    have s2 : v9.cell? ⟨v2.heap.size, 2, none⟩ = some (.bool false) := K7_v9.out.cell 2
    have s_2 := K7_v9.out.free 2
    go_simp
    obtain ⟨v10, h_v10⟩ : ∃ v, (((v9.setCell ⟨v2.heap.size, 0, none⟩ (.int .u64 0)).setCell ⟨v2.heap.size, 1, none⟩ (.int .u64 (b : Int))).setCell ⟨v2.heap.size, 2, none⟩ (.bool b2)) = v := ⟨_, rfl⟩
    rw [h_v10]
    clear s0 s1 s2 s_0 s_1 s_2
    have X1_v10 : Hid (Blk v10 w.heap.size (ncells n An cn Ak F.nil.len ck).toArray 25) := by show Blk _ _ _ _; rw [← h_v10]; exact ((((show Blk v9 w.heap.size (ncells n An cn Ak F.nil.len ck).toArray 25 from X1_v9.out).set_other 0 _ (by omega)).set_other 1 _ (by omega)).set_other 2 _ (by omega))
    have X2_v10 : Hid (Blk v10 (w.heap.size + 1) (ncells m Bn dn Bk F.nil.len dk).toArray 25) := by show Blk _ _ _ _; rw [← h_v10]; exact ((((show Blk v9 (w.heap.size + 1) (ncells m Bn dn Bk F.nil.len dk).toArray 25 from X2_v9.out).set_other 0 _ (by omega)).set_other 1 _ (by omega)).set_other 2 _ (by omega))
    have R_v10 : Hid (Blk v10 (w.heap.size + 1 + 1) #[.int .i64 0, .int .i64 0, .int .i64 0, .string ⟨#[]⟩, .slice none 0 0, .slice none 0 0] 25) := by show Blk _ _ _ _; rw [← h_v10]; exact (((R_v9.out.set_other 0 _ (by omega)).set_other 1 _ (by omega)).set_other 2 _ (by omega))
    have BW_v10 : Hid (Below w.heap.size w v10) := by show Below _ _ _; rw [← h_v10]; exact ((BW_v9.out.setCell (by show _ ≤ v2.heap.size; omega) _).setCell (by show _ ≤ v2.heap.size; omega) _).setCell (by show _ ≤ v2.heap.size; omega) _
    have K7_v10 : Hid (Blk v10 v2.heap.size #[.int .u64 0, .int .u64 (b : Int), .bool b2] 55) := by show Blk _ _ _ _; rw [← h_v10]; exact Blk.tri_set K7_v9.out
    have K6_v10 : Hid (Blk v10 v7.heap.size #[.int .u64 0, .int .u64 (a : Int), .bool b1] 55) := by show Blk _ _ _ _; rw [← h_v10]; exact (((K6_v9.out.set_other 0 _ (by omega)).set_other 1 _ (by omega)).set_other 2 _ (by omega))
    have y1_v10 : v10.cell? ⟨w.heap.size, 1, none⟩ = some (.int .i64 n.int) := X1_v10.out.cell 1
    have y3_v10 : v10.cell? ⟨w.heap.size + 1, 1, none⟩ = some (.int .i64 m.int) := X2_v10.out.cell 1
    have FIN : ∃ (wz : World) (g6 g7 : Nat), wz = v10 ∧ g6 = v7.heap.size ∧ g7 = v2.heap.size := ⟨_, _, _, rfl, rfl, rfl⟩
    have FINH : Hid (Blk v10 w.heap.size (ncells n An cn Ak F.nil.len ck).toArray 25 ∧ Blk v10 (w.heap.size + 1) (ncells m Bn dn Bk F.nil.len dk).toArray 25 ∧ Blk v10 (w.heap.size + 1 + 1) #[.int .i64 0, .int .i64 0, .int .i64 0, .string ⟨#[]⟩, .slice none 0 0, .slice none 0 0] 25 ∧ Below w.heap.size w v10 ∧ Blk v10 v7.heap.size #[.int .u64 0, .int .u64 (a : Int), .bool b1] 55 ∧ Blk v10 v2.heap.size #[.int .u64 0, .int .u64 (b : Int), .bool b2] 55) := ⟨X1_v10.out, X2_v10.out, R_v10.out, BW_v10.out, K6_v10.out, K7_v10.out⟩
    have e1 : v10.cell? ⟨v7.heap.size, 1, none⟩ = some (.int .u64 (a : Int)) := K6_v10.out.cell 1
    have e2 : v10.cell? ⟨v7.heap.size, 2, none⟩ = some (.bool b1) := K6_v10.out.cell 2
    have e3 : v10.cell? ⟨v2.heap.size, 1, none⟩ = some (.int .u64 (b : Int)) := K7_v10.out.cell 1
    have e4 : v10.cell? ⟨v2.heap.size, 2, none⟩ = some (.bool b2) := K7_v10.out.cell 2
    have e5 : v10.cell? ⟨w.heap.size, 2, none⟩ = some (.int .i64 n.scale) := X1_v10.out.cell 2
    have e6 : v10.cell? ⟨w.heap.size + 1, 2, none⟩ = some (.int .i64 m.scale) := X2_v10.out.cell 2
    refine hK.out _ _ (⟨y1_v10, y3_v10⟩) (fun hHeld => ?_)
    clear hK K
    try simp only [Act.put, List.setIfInBounds_toArray, List.set_cons_zero, List.set_cons_succ]
    refine wpAnyH_done (by kernel_rfl) ?_ _
    rotate_left 1
    refine AllReadyH.cons (o := { dst := some 6, op := Go.Op.alloc 55, type := 0, pos := "decimal.go:127", after := #[], guard := none }) rfl (fun K hK => ?_) ?_
    go_simp
    obtain ⟨v11, h_v11⟩ : ∃ v, v1.alloc (.cells #[.int .u64 0, .int .u64 0, .bool false] 55) = v := ⟨_, rfl⟩
    rw [h_v11]
    have b_v11 : Below v1.heap.size v1 v11 := by rw [← h_v11]; exact below_ra _ _
    have ST_v11 : Hid (St w [⟨w.heap.size, n, .nil, An, cn, Ak, ck⟩, ⟨w.heap.size + 1, m, .nil, Bn, dn, Bk, dk⟩] v11) := ST_v1.out.step b_v11
    have R_v11 : Hid (Blk v11 (w.heap.size + 1 + 1) #[.int .i64 0, .int .i64 0, .int .i64 0, .string ⟨#[]⟩, .slice none 0 0, .slice none 0 0] 25) := R_v1.out.below b_v11 R_v1.out.lt
    have K6_v11 : Hid (Blk v11 v1.heap.size #[.int .u64 0, .int .u64 0, .bool false] 55) := by show Blk _ _ _ _; rw [← h_v11]; exact Blk.new _ _ _
    have hg6 : w.heap.size + 1 + 1 < v1.heap.size := R_v1.out.lt
    have y1_v11 : v11.cell? ⟨w.heap.size, 1, none⟩ = some (.int .i64 n.int) := (ST_v11.out.six 0 rfl).2.1
    have y3_v11 : v11.cell? ⟨w.heap.size + 1, 1, none⟩ = some (.int .i64 m.int) := (ST_v11.out.six 1 rfl).2.1
    refine hK.out _ _ (⟨y1_v11, y3_v11⟩) (fun hHeld => ?_)
    clear hK K
    try simp only [Act.put, List.setIfInBounds_toArray, List.set_cons_zero, List.set_cons_succ]
    refine wpAnyH_ready (rs := [5, 7]) (by kernel_rfl) (by simp) ?_
    refine AllReadyH.cons (o := { dst := some 21, op := Go.Op.call { callee := Go.Callee.value (Go.Operand.func 31), args := #[Go.Operand.tmp 20, Go.Operand.const (Go.Value.int Go.IntKind.i64 0)], argTypes := #[3, 3] }, type := 55, pos := "decimal.go:127", after := #[{ on := 4, ground := Go.Ground.data }, { on := 2, ground := Go.Ground.chain }], guard := none }) rfl (fun K hK => ?_) ?_
    go_simp
    refine (HO2.out _).mono ?_
    rintro e v12 ⟨rfl, b_v12⟩
    have ST_v12 : Hid (St w [⟨w.heap.size, n, .nil, An, cn, Ak, ck⟩, ⟨w.heap.size + 1, m, .nil, Bn, dn, Bk, dk⟩] v12) := ST_v11.out.step b_v12
    have R_v12 : Hid (Blk v12 (w.heap.size + 1 + 1) #[.int .i64 0, .int .i64 0, .int .i64 0, .string ⟨#[]⟩, .slice none 0 0, .slice none 0 0] 25) := R_v11.out.below b_v12 R_v11.out.lt
    have K6_v12 : Hid (Blk v12 v1.heap.size #[.int .u64 0, .int .u64 0, .bool false] 55) := K6_v11.out.below b_v12 K6_v11.out.lt
    have y1_v12 : v12.cell? ⟨w.heap.size, 1, none⟩ = some (.int .i64 n.int) := (ST_v12.out.six 0 rfl).2.1
    have y3_v12 : v12.cell? ⟨w.heap.size + 1, 1, none⟩ = some (.int .i64 m.int) := (ST_v12.out.six 1 rfl).2.1
    go_wp2_with fail
    refine hK.out _ _ (⟨y1_v12, y3_v12⟩) (fun hHeld => ?_)
    clear hK K
    try simp only [Act.put, List.setIfInBounds_toArray, List.set_cons_zero, List.set_cons_succ]
    refine wpAnyH_ready (rs := [7]) (by kernel_rfl) (by simp) ?_
    refine AllReadyH.cons (o := { dst := some 7, op := Go.Op.alloc 55, type := 0, pos := "decimal.go:127", after := #[], guard := none }) rfl (fun K hK => ?_) AllReadyH.nil
    go_simp
    obtain ⟨v13, h_v13⟩ : ∃ v, v12.alloc (.cells #[.int .u64 0, .int .u64 0, .bool false] 55) = v := ⟨_, rfl⟩
    rw [h_v13]
    have b_v13 : Below v12.heap.size v12 v13 := by rw [← h_v13]; exact below_ra _ _
    have ST_v13 : Hid (St w [⟨w.heap.size, n, .nil, An, cn, Ak, ck⟩, ⟨w.heap.size + 1, m, .nil, Bn, dn, Bk, dk⟩] v13) := ST_v12.out.step b_v13
    have R_v13 : Hid (Blk v13 (w.heap.size + 1 + 1) #[.int .i64 0, .int .i64 0, .int .i64 0, .string ⟨#[]⟩, .slice none 0 0, .slice none 0 0] 25) := R_v12.out.below b_v13 R_v12.out.lt
    have K6_v13 : Hid (Blk v13 v1.heap.size #[.int .u64 0, .int .u64 0, .bool false] 55) := K6_v12.out.below b_v13 K6_v12.out.lt
    have K7_v13 : Hid (Blk v13 v12.heap.size #[.int .u64 0, .int .u64 0, .bool false] 55) := by show Blk _ _ _ _; rw [← h_v13]; exact Blk.new _ _ _
    have hne : v1.heap.size ≠ v12.heap.size := by have := K6_v12.out.lt; omega
    have hg7 : w.heap.size + 1 + 1 < v12.heap.size := R_v12.out.lt
    have y1_v13 : v13.cell? ⟨w.heap.size, 1, none⟩ = some (.int .i64 n.int) := (ST_v13.out.six 0 rfl).2.1
    have y3_v13 : v13.cell? ⟨w.heap.size + 1, 1, none⟩ = some (.int .i64 m.int) := (ST_v13.out.six 1 rfl).2.1
    refine hK.out _ _ (⟨y1_v13, y3_v13⟩) (fun hHeld => ?_)
    clear hK K
    try simp only [Act.put, List.setIfInBounds_toArray, List.set_cons_zero, List.set_cons_succ]
    refine wpAnyH_ready (rs := [8]) (by kernel_rfl) (by simp) ?_
    refine AllReadyH.cons (o := { dst := none, op := Go.Op.store 55 (Go.Operand.tmp 6) (Go.Operand.tmp 18), type := 0, pos := "decimal.go:127", after := #[{ on := 6, ground := Go.Ground.data }, { on := 2, ground := Go.Ground.data }, { on := 5, ground := Go.Ground.chain }, { on := 0, ground := Go.Ground.phase }, { on := 1, ground := Go.Ground.phase }, { on := 2, ground := Go.Ground.phase }, { on := 3, ground := Go.Ground.textOnly Go.Departure.lateStores }, { on := 4, ground := Go.Ground.textOnly Go.Departure.lateStores }, { on := 5, ground := Go.Ground.textOnly Go.Departure.lateStoresUnsure }, { on := 6, ground := Go.Ground.phase }, { on := 7, ground := Go.Ground.phase }], guard := none }) rfl (fun K hK => ?_) AllReadyH.nil
    have s0 : v13.cell? ⟨v1.heap.size, 0, none⟩ = some (.int .u64 0) := K6_v13.out.cell 0
    have s_0 := K6_v13.out.free 0
    have s1 : v13.cell? ⟨v1.heap.size, 1, none⟩ = some (.int .u64 0) := K6_v13.out.cell 1
    have s_1 := K6_v13.out.free 1
    have s2 : v13.cell? ⟨v1.heap.size, 2, none⟩ = some (.bool false) := K6_v13.out.cell 2
    have s_2 := K6_v13.out.free 2
    go_simp
    obtain ⟨v14, h_v14⟩ : ∃ v, (((v13.setCell ⟨v1.heap.size, 0, none⟩ (.int .u64 0)).setCell ⟨v1.heap.size, 1, none⟩ (.int .u64 (a : Int))).setCell ⟨v1.heap.size, 2, none⟩ (.bool b1)) = v := ⟨_, rfl⟩
    rw [h_v14]
    clear s0 s1 s2 s_0 s_1 s_2
    have X1_v14 : Hid (Blk v14 w.heap.size (ncells n An cn Ak F.nil.len ck).toArray 25) := by show Blk _ _ _ _; rw [← h_v14]; exact ((((show Blk v13 w.heap.size (ncells n An cn Ak F.nil.len ck).toArray 25 from (ST_v13.out.box 0 rfl).1).set_other 0 _ (by omega)).set_other 1 _ (by omega)).set_other 2 _ (by omega))
    have X2_v14 : Hid (Blk v14 (w.heap.size + 1) (ncells m Bn dn Bk F.nil.len dk).toArray 25) := by show Blk _ _ _ _; rw [← h_v14]; exact ((((show Blk v13 (w.heap.size + 1) (ncells m Bn dn Bk F.nil.len dk).toArray 25 from (ST_v13.out.box 1 rfl).1).set_other 0 _ (by omega)).set_other 1 _ (by omega)).set_other 2 _ (by omega))
    have R_v14 : Hid (Blk v14 (w.heap.size + 1 + 1) #[.int .i64 0, .int .i64 0, .int .i64 0, .string ⟨#[]⟩, .slice none 0 0, .slice none 0 0] 25) := by show Blk _ _ _ _; rw [← h_v14]; exact (((R_v13.out.set_other 0 _ (by omega)).set_other 1 _ (by omega)).set_other 2 _ (by omega))
    have BW_v14 : Hid (Below w.heap.size w v14) := by show Below _ _ _; rw [← h_v14]; exact ((ST_v13.out.1.setCell (by show _ ≤ v1.heap.size; omega) _).setCell (by show _ ≤ v1.heap.size; omega) _).setCell (by show _ ≤ v1.heap.size; omega) _
    have K6_v14 : Hid (Blk v14 v1.heap.size #[.int .u64 0, .int .u64 (a : Int), .bool b1] 55) := by show Blk _ _ _ _; rw [← h_v14]; exact Blk.tri_set K6_v13.out
    have K7_v14 : Hid (Blk v14 v12.heap.size #[.int .u64 0, .int .u64 0, .bool false] 55) := by show Blk _ _ _ _; rw [← h_v14]; exact (((K7_v13.out.set_other 0 _ (by omega)).set_other 1 _ (by omega)).set_other 2 _ (by omega))
    have y1_v14 : v14.cell? ⟨w.heap.size, 1, none⟩ = some (.int .i64 n.int) := X1_v14.out.cell 1
    have y3_v14 : v14.cell? ⟨w.heap.size + 1, 1, none⟩ = some (.int .i64 m.int) := X2_v14.out.cell 1
    refine hK.out _ _ (⟨y1_v14, y3_v14⟩) (fun hHeld => ?_)
    clear hK K
    try simp only [Act.put, List.setIfInBounds_toArray, List.set_cons_zero, List.set_cons_succ]
    refine wpAnyH_ready (rs := [9]) (by kernel_rfl) (by simp) ?_
    refine AllReadyH.cons (o := { dst := none, op := Go.Op.store 55 (Go.Operand.tmp 7) (Go.Operand.tmp 21), type := 0, pos := "decimal.go:127", after := #[{ on := 7, ground := Go.Ground.data }, { on := 5, ground := Go.Ground.data }, { on := 8, ground := Go.Ground.chain }, { on := 0, ground := Go.Ground.phase }, { on := 1, ground := Go.Ground.phase }, { on := 2, ground := Go.Ground.phase }, { on := 3, ground := Go.Ground.phase }, { on := 4, ground := Go.Ground.phase }, { on := 5, ground := Go.Ground.phase }, { on := 6, ground := Go.Ground.phase }, { on := 7, ground := Go.Ground.phase }, { on := 8, ground := Go.Ground.phase }], guard := none }) rfl (fun K hK => ?_) AllReadyH.nil
    have s0 : v14.cell? ⟨v12.heap.size, 0, none⟩ = some (.int .u64 0) := K7_v14.out.cell 0
    have s_0 := K7_v14.out.free 0
    have s1 : v14.cell? ⟨v12.heap.size, 1, none⟩ = some (.int .u64 0) := K7_v14.out.cell 1
    have s_1 := K7_v14.out.free 1
    have s2 : v14.cell? ⟨v12.heap.size, 2, none⟩ = some (.bool false) := K7_v14.out.cell 2
    have s_2 := K7_v14.out.free 2
    go_simp
    obtain ⟨v15, h_v15⟩ : ∃ v, (((v14.setCell ⟨v12.heap.size, 0, none⟩ (.int .u64 0)).setCell ⟨v12.heap.size, 1, none⟩ (.int .u64 (b : Int))).setCell ⟨v12.heap.size, 2, none⟩ (.bool b2)) = v := ⟨_, rfl⟩
    rw [h_v15]
    clear s0 s1 s2 s_0 s_1 s_2
    have X1_v15 : Hid (Blk v15 w.heap.size (ncells n An cn Ak F.nil.len ck).toArray 25) := by show Blk _ _ _ _; rw [← h_v15]; exact ((((show Blk v14 w.heap.size (ncells n An cn Ak F.nil.len ck).toArray 25 from X1_v14.out).set_other 0 _ (by omega)).set_other 1 _ (by omega)).set_other 2 _ (by omega))
    have X2_v15 : Hid (Blk v15 (w.heap.size + 1) (ncells m Bn dn Bk F.nil.len dk).toArray 25) := by show Blk _ _ _ _; rw [← h_v15]; exact ((((show Blk v14 (w.heap.size + 1) (ncells m Bn dn Bk F.nil.len dk).toArray 25 from X2_v14.out).set_other 0 _ (by omega)).set_other 1 _ (by omega)).set_other 2 _ (by omega))
    have R_v15 : Hid (Blk v15 (w.heap.size + 1 + 1) #[.int .i64 0, .int .i64 0, .int .i64 0, .string ⟨#[]⟩, .slice none 0 0, .slice none 0 0] 25) := by show Blk _ _ _ _; rw [← h_v15]; exact (((R_v14.out.set_other 0 _ (by omega)).set_other 1 _ (by omega)).set_other 2 _ (by omega))
    have BW_v15 : Hid (Below w.heap.size w v15) := by show Below _ _ _; rw [← h_v15]; exact ((BW_v14.out.setCell (by show _ ≤ v12.heap.size; omega) _).setCell (by show _ ≤ v12.heap.size; omega) _).setCell (by show _ ≤ v12.heap.size; omega) _
    have K7_v15 : Hid (Blk v15 v12.heap.size #[.int .u64 0, .int .u64 (b : Int), .bool b2] 55) := by show Blk _ _ _ _; rw [← h_v15]; exact Blk.tri_set K7_v14.out
    have K6_v15 : Hid (Blk v15 v1.heap.size #[.int .u64 0, .int .u64 (a : Int), .bool b1] 55) := by show Blk _ _ _ _; rw [← h_v15]; exact (((K6_v14.out.set_other 0 _ (by omega)).set_other 1 _ (by omega)).set_other 2 _ (by omega))
    have y1_v15 : v15.cell? ⟨w.heap.size, 1, none⟩ = some (.int .i64 n.int) := X1_v15.out.cell 1
    have y3_v15 : v15.cell? ⟨w.heap.size + 1, 1, none⟩ = some (.int .i64 m.int) := X2_v15.out.cell 1
    have FIN : ∃ (wz : World) (g6 g7 : Nat), wz = v15 ∧ g6 = v1.heap.size ∧ g7 = v12.heap.size := ⟨_, _, _, rfl, rfl, rfl⟩
    have FINH : Hid (Blk v15 w.heap.size (ncells n An cn Ak F.nil.len ck).toArray 25 ∧ Blk v15 (w.heap.size + 1) (ncells m Bn dn Bk F.nil.len dk).toArray 25 ∧ Blk v15 (w.heap.size + 1 + 1) #[.int .i64 0, .int .i64 0, .int .i64 0, .string ⟨#[]⟩, .slice none 0 0, .slice none 0 0] 25 ∧ Below w.heap.size w v15 ∧ Blk v15 v1.heap.size #[.int .u64 0, .int .u64 (a : Int), .bool b1] 55 ∧ Blk v15 v12.heap.size #[.int .u64 0, .int .u64 (b : Int), .bool b2] 55) := ⟨X1_v15.out, X2_v15.out, R_v15.out, BW_v15.out, K6_v15.out, K7_v15.out⟩
    have e1 : v15.cell? ⟨v1.heap.size, 1, none⟩ = some (.int .u64 (a : Int)) := K6_v15.out.cell 1
    have e2 : v15.cell? ⟨v1.heap.size, 2, none⟩ = some (.bool b1) := K6_v15.out.cell 2
    have e3 : v15.cell? ⟨v12.heap.size, 1, none⟩ = some (.int .u64 (b : Int)) := K7_v15.out.cell 1
    have e4 : v15.cell? ⟨v12.heap.size, 2, none⟩ = some (.bool b2) := K7_v15.out.cell 2
    have e5 : v15.cell? ⟨w.heap.size, 2, none⟩ = some (.int .i64 n.scale) := X1_v15.out.cell 2
    have e6 : v15.cell? ⟨w.heap.size + 1, 2, none⟩ = some (.int .i64 m.scale) := X2_v15.out.cell 2
    refine hK.out _ _ (⟨y1_v15, y3_v15⟩) (fun hHeld => ?_)
    clear hK K
    try simp only [Act.put, List.setIfInBounds_toArray, List.set_cons_zero, List.set_cons_succ]
    refine wpAnyH_done (by kernel_rfl) ?_ _
    rotate_left 1
    refine AllReadyH.cons (o := { dst := some 7, op := Go.Op.alloc 55, type := 0, pos := "decimal.go:127", after := #[], guard := none }) rfl (fun K hK => ?_) AllReadyH.nil
    go_simp
    obtain ⟨v16, h_v16⟩ : ∃ v, v11.alloc (.cells #[.int .u64 0, .int .u64 0, .bool false] 55) = v := ⟨_, rfl⟩
    rw [h_v16]
    have b_v16 : Below v11.heap.size v11 v16 := by rw [← h_v16]; exact below_ra _ _
    have ST_v16 : Hid (St w [⟨w.heap.size, n, .nil, An, cn, Ak, ck⟩, ⟨w.heap.size + 1, m, .nil, Bn, dn, Bk, dk⟩] v16) := ST_v11.out.step b_v16
    have R_v16 : Hid (Blk v16 (w.heap.size + 1 + 1) #[.int .i64 0, .int .i64 0, .int .i64 0, .string ⟨#[]⟩, .slice none 0 0, .slice none 0 0] 25) := R_v11.out.below b_v16 R_v11.out.lt
    have K6_v16 : Hid (Blk v16 v1.heap.size #[.int .u64 0, .int .u64 0, .bool false] 55) := K6_v11.out.below b_v16 K6_v11.out.lt
    have K7_v16 : Hid (Blk v16 v11.heap.size #[.int .u64 0, .int .u64 0, .bool false] 55) := by show Blk _ _ _ _; rw [← h_v16]; exact Blk.new _ _ _
    have hne : v1.heap.size ≠ v11.heap.size := by have := K6_v11.out.lt; omega
    have hg7 : w.heap.size + 1 + 1 < v11.heap.size := R_v11.out.lt
    have y1_v16 : v16.cell? ⟨w.heap.size, 1, none⟩ = some (.int .i64 n.int) := (ST_v16.out.six 0 rfl).2.1
    have y3_v16 : v16.cell? ⟨w.heap.size + 1, 1, none⟩ = some (.int .i64 m.int) := (ST_v16.out.six 1 rfl).2.1
    refine hK.out _ _ (⟨y1_v16, y3_v16⟩) (fun hHeld => ?_)
    clear hK K
    try simp only [Act.put, List.setIfInBounds_toArray, List.set_cons_zero, List.set_cons_succ]
    refine wpAnyH_ready (rs := [5]) (by kernel_rfl) (by simp) ?_
    refine AllReadyH.cons (o := { dst := some 21, op := Go.Op.call { callee := Go.Callee.value (Go.Operand.func 31), args := #[Go.Operand.tmp 20, Go.Operand.const (Go.Value.int Go.IntKind.i64 0)], argTypes := #[3, 3] }, type := 55, pos := "decimal.go:127", after := #[{ on := 4, ground := Go.Ground.data }, { on := 2, ground := Go.Ground.chain }], guard := none }) rfl (fun K hK => ?_) AllReadyH.nil
    go_simp
    refine (HO2.out _).mono ?_
    rintro e v17 ⟨rfl, b_v17⟩
    have ST_v17 : Hid (St w [⟨w.heap.size, n, .nil, An, cn, Ak, ck⟩, ⟨w.heap.size + 1, m, .nil, Bn, dn, Bk, dk⟩] v17) := ST_v16.out.step b_v17
    have R_v17 : Hid (Blk v17 (w.heap.size + 1 + 1) #[.int .i64 0, .int .i64 0, .int .i64 0, .string ⟨#[]⟩, .slice none 0 0, .slice none 0 0] 25) := R_v16.out.below b_v17 R_v16.out.lt
    have K6_v17 : Hid (Blk v17 v1.heap.size #[.int .u64 0, .int .u64 0, .bool false] 55) := K6_v16.out.below b_v17 K6_v16.out.lt
    have K7_v17 : Hid (Blk v17 v11.heap.size #[.int .u64 0, .int .u64 0, .bool false] 55) := K7_v16.out.below b_v17 K7_v16.out.lt
    have y1_v17 : v17.cell? ⟨w.heap.size, 1, none⟩ = some (.int .i64 n.int) := (ST_v17.out.six 0 rfl).2.1
    have y3_v17 : v17.cell? ⟨w.heap.size + 1, 1, none⟩ = some (.int .i64 m.int) := (ST_v17.out.six 1 rfl).2.1
    go_wp2_with fail
    refine hK.out _ _ (⟨y1_v17, y3_v17⟩) (fun hHeld => ?_)
    clear hK K
    try simp only [Act.put, List.setIfInBounds_toArray, List.set_cons_zero, List.set_cons_succ]
    refine wpAnyH_ready (rs := [8]) (by kernel_rfl) (by simp) ?_
    refine AllReadyH.cons (o := { dst := none, op := Go.Op.store 55 (Go.Operand.tmp 6) (Go.Operand.tmp 18), type := 0, pos := "decimal.go:127", after := #[{ on := 6, ground := Go.Ground.data }, { on := 2, ground := Go.Ground.data }, { on := 5, ground := Go.Ground.chain }, { on := 0, ground := Go.Ground.phase }, { on := 1, ground := Go.Ground.phase }, { on := 2, ground := Go.Ground.phase }, { on := 3, ground := Go.Ground.textOnly Go.Departure.lateStores }, { on := 4, ground := Go.Ground.textOnly Go.Departure.lateStores }, { on := 5, ground := Go.Ground.textOnly Go.Departure.lateStoresUnsure }, { on := 6, ground := Go.Ground.phase }, { on := 7, ground := Go.Ground.phase }], guard := none }) rfl (fun K hK => ?_) AllReadyH.nil
    have s0 : v17.cell? ⟨v1.heap.size, 0, none⟩ = some (.int .u64 0) := K6_v17.out.cell 0
    have s_0 := K6_v17.out.free 0
    have s1 : v17.cell? ⟨v1.heap.size, 1, none⟩ = some (.int .u64 0) := K6_v17.out.cell 1
    have s_1 := K6_v17.out.free 1
    have s2 : v17.cell? ⟨v1.heap.size, 2, none⟩ = some (.bool false) := K6_v17.out.cell 2
    have s_2 := K6_v17.out.free 2
    go_simp
    obtain ⟨v18, h_v18⟩ : ∃ v, (((v17.setCell ⟨v1.heap.size, 0, none⟩ (.int .u64 0)).setCell ⟨v1.heap.size, 1, none⟩ (.int .u64 (a : Int))).setCell ⟨v1.heap.size, 2, none⟩ (.bool b1)) = v := ⟨_, rfl⟩
    rw [h_v18]
    clear s0 s1 s2 s_0 s_1 s_2
    have X1_v18 : Hid (Blk v18 w.heap.size (ncells n An cn Ak F.nil.len ck).toArray 25) := by show Blk _ _ _ _; rw [← h_v18]; exact ((((show Blk v17 w.heap.size (ncells n An cn Ak F.nil.len ck).toArray 25 from (ST_v17.out.box 0 rfl).1).set_other 0 _ (by omega)).set_other 1 _ (by omega)).set_other 2 _ (by omega))
    have X2_v18 : Hid (Blk v18 (w.heap.size + 1) (ncells m Bn dn Bk F.nil.len dk).toArray 25) := by show Blk _ _ _ _; rw [← h_v18]; exact ((((show Blk v17 (w.heap.size + 1) (ncells m Bn dn Bk F.nil.len dk).toArray 25 from (ST_v17.out.box 1 rfl).1).set_other 0 _ (by omega)).set_other 1 _ (by omega)).set_other 2 _ (by omega))
    have R_v18 : Hid (Blk v18 (w.heap.size + 1 + 1) #[.int .i64 0, .int .i64 0, .int .i64 0, .string ⟨#[]⟩, .slice none 0 0, .slice none 0 0] 25) := by show Blk _ _ _ _; rw [← h_v18]; exact (((R_v17.out.set_other 0 _ (by omega)).set_other 1 _ (by omega)).set_other 2 _ (by omega))
    have BW_v18 : Hid (Below w.heap.size w v18) := by show Below _ _ _; rw [← h_v18]; exact ((ST_v17.out.1.setCell (by show _ ≤ v1.heap.size; omega) _).setCell (by show _ ≤ v1.heap.size; omega) _).setCell (by show _ ≤ v1.heap.size; omega) _
    have K6_v18 : Hid (Blk v18 v1.heap.size #[.int .u64 0, .int .u64 (a : Int), .bool b1] 55) := by show Blk _ _ _ _; rw [← h_v18]; exact Blk.tri_set K6_v17.out
    have K7_v18 : Hid (Blk v18 v11.heap.size #[.int .u64 0, .int .u64 0, .bool false] 55) := by show Blk _ _ _ _; rw [← h_v18]; exact (((K7_v17.out.set_other 0 _ (by omega)).set_other 1 _ (by omega)).set_other 2 _ (by omega))
    have y1_v18 : v18.cell? ⟨w.heap.size, 1, none⟩ = some (.int .i64 n.int) := X1_v18.out.cell 1
    have y3_v18 : v18.cell? ⟨w.heap.size + 1, 1, none⟩ = some (.int .i64 m.int) := X2_v18.out.cell 1
    refine hK.out _ _ (⟨y1_v18, y3_v18⟩) (fun hHeld => ?_)
    clear hK K
    try simp only [Act.put, List.setIfInBounds_toArray, List.set_cons_zero, List.set_cons_succ]
    refine wpAnyH_ready (rs := [9]) (by kernel_rfl) (by simp) ?_
    refine AllReadyH.cons (o := { dst := none, op := Go.Op.store 55 (Go.Operand.tmp 7) (Go.Operand.tmp 21), type := 0, pos := "decimal.go:127", after := #[{ on := 7, ground := Go.Ground.data }, { on := 5, ground := Go.Ground.data }, { on := 8, ground := Go.Ground.chain }, { on := 0, ground := Go.Ground.phase }, { on := 1, ground := Go.Ground.phase }, { on := 2, ground := Go.Ground.phase }, { on := 3, ground := Go.Ground.phase }, { on := 4, ground := Go.Ground.phase }, { on := 5, ground := Go.Ground.phase }, { on := 6, ground := Go.Ground.phase }, { on := 7, ground := Go.Ground.phase }, { on := 8, ground := Go.Ground.phase }], guard := none }) rfl (fun K hK => ?_) AllReadyH.nil
    have s0 : v18.cell? ⟨v11.heap.size, 0, none⟩ = some (.int .u64 0) := K7_v18.out.cell 0
    have s_0 := K7_v18.out.free 0
    have s1 : v18.cell? ⟨v11.heap.size, 1, none⟩ = some (.int .u64 0) := K7_v18.out.cell 1
    have s_1 := K7_v18.out.free 1
    have s2 : v18.cell? ⟨v11.heap.size, 2, none⟩ = some (.bool false) := K7_v18.out.cell 2
    have s_2 := K7_v18.out.free 2
    go_simp
    obtain ⟨v19, h_v19⟩ : ∃ v, (((v18.setCell ⟨v11.heap.size, 0, none⟩ (.int .u64 0)).setCell ⟨v11.heap.size, 1, none⟩ (.int .u64 (b : Int))).setCell ⟨v11.heap.size, 2, none⟩ (.bool b2)) = v := ⟨_, rfl⟩
    rw [h_v19]
    clear s0 s1 s2 s_0 s_1 s_2
    have X1_v19 : Hid (Blk v19 w.heap.size (ncells n An cn Ak F.nil.len ck).toArray 25) := by show Blk _ _ _ _; rw [← h_v19]; exact ((((show Blk v18 w.heap.size (ncells n An cn Ak F.nil.len ck).toArray 25 from X1_v18.out).set_other 0 _ (by omega)).set_other 1 _ (by omega)).set_other 2 _ (by omega))
    have X2_v19 : Hid (Blk v19 (w.heap.size + 1) (ncells m Bn dn Bk F.nil.len dk).toArray 25) := by show Blk _ _ _ _; rw [← h_v19]; exact ((((show Blk v18 (w.heap.size + 1) (ncells m Bn dn Bk F.nil.len dk).toArray 25 from X2_v18.out).set_other 0 _ (by omega)).set_other 1 _ (by omega)).set_other 2 _ (by omega))
    have R_v19 : Hid (Blk v19 (w.heap.size + 1 + 1) #[.int .i64 0, .int .i64 0, .int .i64 0, .string ⟨#[]⟩, .slice none 0 0, .slice none 0 0] 25) := by show Blk _ _ _ _; rw [← h_v19]; exact (((R_v18.out.set_other 0 _ (by omega)).set_other 1 _ (by omega)).set_other 2 _ (by omega))
    have BW_v19 : Hid (Below w.heap.size w v19) := by show Below _ _ _; rw [← h_v19]; exact ((BW_v18.out.setCell (by show _ ≤ v11.heap.size; omega) _).setCell (by show _ ≤ v11.heap.size; omega) _).setCell (by show _ ≤ v11.heap.size; omega) _
    have K7_v19 : Hid (Blk v19 v11.heap.size #[.int .u64 0, .int .u64 (b : Int), .bool b2] 55) := by show Blk _ _ _ _; rw [← h_v19]; exact Blk.tri_set K7_v18.out
    have K6_v19 : Hid (Blk v19 v1.heap.size #[.int .u64 0, .int .u64 (a : Int), .bool b1] 55) := by show Blk _ _ _ _; rw [← h_v19]; exact (((K6_v18.out.set_other 0 _ (by omega)).set_other 1 _ (by omega)).set_other 2 _ (by omega))
    have y1_v19 : v19.cell? ⟨w.heap.size, 1, none⟩ = some (.int .i64 n.int) := X1_v19.out.cell 1
    have y3_v19 : v19.cell? ⟨w.heap.size + 1, 1, none⟩ = some (.int .i64 m.int) := X2_v19.out.cell 1
    have FIN : ∃ (wz : World) (g6 g7 : Nat), wz = v19 ∧ g6 = v1.heap.size ∧ g7 = v11.heap.size := ⟨_, _, _, rfl, rfl, rfl⟩
    have FINH : Hid (Blk v19 w.heap.size (ncells n An cn Ak F.nil.len ck).toArray 25 ∧ Blk v19 (w.heap.size + 1) (ncells m Bn dn Bk F.nil.len dk).toArray 25 ∧ Blk v19 (w.heap.size + 1 + 1) #[.int .i64 0, .int .i64 0, .int .i64 0, .string ⟨#[]⟩, .slice none 0 0, .slice none 0 0] 25 ∧ Below w.heap.size w v19 ∧ Blk v19 v1.heap.size #[.int .u64 0, .int .u64 (a : Int), .bool b1] 55 ∧ Blk v19 v11.heap.size #[.int .u64 0, .int .u64 (b : Int), .bool b2] 55) := ⟨X1_v19.out, X2_v19.out, R_v19.out, BW_v19.out, K6_v19.out, K7_v19.out⟩
    have e1 : v19.cell? ⟨v1.heap.size, 1, none⟩ = some (.int .u64 (a : Int)) := K6_v19.out.cell 1
    have e2 : v19.cell? ⟨v1.heap.size, 2, none⟩ = some (.bool b1) := K6_v19.out.cell 2
    have e3 : v19.cell? ⟨v11.heap.size, 1, none⟩ = some (.int .u64 (b : Int)) := K7_v19.out.cell 1
    have e4 : v19.cell? ⟨v11.heap.size, 2, none⟩ = some (.bool b2) := K7_v19.out.cell 2
    have e5 : v19.cell? ⟨w.heap.size, 2, none⟩ = some (.int .i64 n.scale) := X1_v19.out.cell 2
    have e6 : v19.cell? ⟨w.heap.size + 1, 2, none⟩ = some (.int .i64 m.scale) := X2_v19.out.cell 2
    refine hK.out _ _ (⟨y1_v19, y3_v19⟩) (fun hHeld => ?_)
    clear hK K
    try simp only [Act.put, List.setIfInBounds_toArray, List.set_cons_zero, List.set_cons_succ]
    refine wpAnyH_done (by kernel_rfl) ?_ _
    rotate_left 1
    refine AllReadyH.cons (o := { dst := some 7, op := Go.Op.alloc 55, type := 0, pos := "decimal.go:127", after := #[], guard := none }) rfl (fun K hK => ?_) AllReadyH.nil
    go_simp
    obtain ⟨v20, h_v20⟩ : ∃ v, v1.alloc (.cells #[.int .u64 0, .int .u64 0, .bool false] 55) = v := ⟨_, rfl⟩
    rw [h_v20]
    have b_v20 : Below v1.heap.size v1 v20 := by rw [← h_v20]; exact below_ra _ _
    have ST_v20 : Hid (St w [⟨w.heap.size, n, .nil, An, cn, Ak, ck⟩, ⟨w.heap.size + 1, m, .nil, Bn, dn, Bk, dk⟩] v20) := ST_v1.out.step b_v20
    have R_v20 : Hid (Blk v20 (w.heap.size + 1 + 1) #[.int .i64 0, .int .i64 0, .int .i64 0, .string ⟨#[]⟩, .slice none 0 0, .slice none 0 0] 25) := R_v1.out.below b_v20 R_v1.out.lt
    have K7_v20 : Hid (Blk v20 v1.heap.size #[.int .u64 0, .int .u64 0, .bool false] 55) := by show Blk _ _ _ _; rw [← h_v20]; exact Blk.new _ _ _
    have hg7 : w.heap.size + 1 + 1 < v1.heap.size := R_v1.out.lt
    have y1_v20 : v20.cell? ⟨w.heap.size, 1, none⟩ = some (.int .i64 n.int) := (ST_v20.out.six 0 rfl).2.1
    have y3_v20 : v20.cell? ⟨w.heap.size + 1, 1, none⟩ = some (.int .i64 m.int) := (ST_v20.out.six 1 rfl).2.1
    refine hK.out _ _ (⟨y1_v20, y3_v20⟩) (fun hHeld => ?_)
    clear hK K
    try simp only [Act.put, List.setIfInBounds_toArray, List.set_cons_zero, List.set_cons_succ]
    refine wpAnyH_ready (rs := [5, 6]) (by kernel_rfl) (by simp) ?_
    refine AllReadyH.cons (o := { dst := some 21, op := Go.Op.call { callee := Go.Callee.value (Go.Operand.func 31), args := #[Go.Operand.tmp 20, Go.Operand.const (Go.Value.int Go.IntKind.i64 0)], argTypes := #[3, 3] }, type := 55, pos := "decimal.go:127", after := #[{ on := 4, ground := Go.Ground.data }, { on := 2, ground := Go.Ground.chain }], guard := none }) rfl (fun K hK => ?_) ?_
    go_simp
    refine (HO2.out _).mono ?_
    rintro e v21 ⟨rfl, b_v21⟩
    have ST_v21 : Hid (St w [⟨w.heap.size, n, .nil, An, cn, Ak, ck⟩, ⟨w.heap.size + 1, m, .nil, Bn, dn, Bk, dk⟩] v21) := ST_v20.out.step b_v21
    have R_v21 : Hid (Blk v21 (w.heap.size + 1 + 1) #[.int .i64 0, .int .i64 0, .int .i64 0, .string ⟨#[]⟩, .slice none 0 0, .slice none 0 0] 25) := R_v20.out.below b_v21 R_v20.out.lt
    have K7_v21 : Hid (Blk v21 v1.heap.size #[.int .u64 0, .int .u64 0, .bool false] 55) := K7_v20.out.below b_v21 K7_v20.out.lt
    have y1_v21 : v21.cell? ⟨w.heap.size, 1, none⟩ = some (.int .i64 n.int) := (ST_v21.out.six 0 rfl).2.1
    have y3_v21 : v21.cell? ⟨w.heap.size + 1, 1, none⟩ = some (.int .i64 m.int) := (ST_v21.out.six 1 rfl).2.1
    go_wp2_with fail
    refine hK.out _ _ (⟨y1_v21, y3_v21⟩) (fun hHeld => ?_)
    clear hK K
    try simp only [Act.put, List.setIfInBounds_toArray, List.set_cons_zero, List.set_cons_succ]
    refine wpAnyH_ready (rs := [6]) (by kernel_rfl) (by simp) ?_
    refine AllReadyH.cons (o := { dst := some 6, op := Go.Op.alloc 55, type := 0, pos := "decimal.go:127", after := #[], guard := none }) rfl (fun K hK => ?_) AllReadyH.nil
    go_simp
    obtain ⟨v22, h_v22⟩ : ∃ v, v21.alloc (.cells #[.int .u64 0, .int .u64 0, .bool false] 55) = v := ⟨_, rfl⟩
    rw [h_v22]
    have b_v22 : Below v21.heap.size v21 v22 := by rw [← h_v22]; exact below_ra _ _
    have ST_v22 : Hid (St w [⟨w.heap.size, n, .nil, An, cn, Ak, ck⟩, ⟨w.heap.size + 1, m, .nil, Bn, dn, Bk, dk⟩] v22) := ST_v21.out.step b_v22
    have R_v22 : Hid (Blk v22 (w.heap.size + 1 + 1) #[.int .i64 0, .int .i64 0, .int .i64 0, .string ⟨#[]⟩, .slice none 0 0, .slice none 0 0] 25) := R_v21.out.below b_v22 R_v21.out.lt
    have K7_v22 : Hid (Blk v22 v1.heap.size #[.int .u64 0, .int .u64 0, .bool false] 55) := K7_v21.out.below b_v22 K7_v21.out.lt
    have K6_v22 : Hid (Blk v22 v21.heap.size #[.int .u64 0, .int .u64 0, .bool false] 55) := by show Blk _ _ _ _; rw [← h_v22]; exact Blk.new _ _ _
    have hne : v21.heap.size ≠ v1.heap.size := by have := K7_v21.out.lt; omega
    have hg6 : w.heap.size + 1 + 1 < v21.heap.size := R_v21.out.lt
    have y1_v22 : v22.cell? ⟨w.heap.size, 1, none⟩ = some (.int .i64 n.int) := (ST_v22.out.six 0 rfl).2.1
    have y3_v22 : v22.cell? ⟨w.heap.size + 1, 1, none⟩ = some (.int .i64 m.int) := (ST_v22.out.six 1 rfl).2.1
    refine hK.out _ _ (⟨y1_v22, y3_v22⟩) (fun hHeld => ?_)
    clear hK K
    try simp only [Act.put, List.setIfInBounds_toArray, List.set_cons_zero, List.set_cons_succ]
    refine wpAnyH_ready (rs := [8]) (by kernel_rfl) (by simp) ?_
    refine AllReadyH.cons (o := { dst := none, op := Go.Op.store 55 (Go.Operand.tmp 6) (Go.Operand.tmp 18), type := 0, pos := "decimal.go:127", after := #[{ on := 6, ground := Go.Ground.data }, { on := 2, ground := Go.Ground.data }, { on := 5, ground := Go.Ground.chain }, { on := 0, ground := Go.Ground.phase }, { on := 1, ground := Go.Ground.phase }, { on := 2, ground := Go.Ground.phase }, { on := 3, ground := Go.Ground.textOnly Go.Departure.lateStores }, { on := 4, ground := Go.Ground.textOnly Go.Departure.lateStores }, { on := 5, ground := Go.Ground.textOnly Go.Departure.lateStoresUnsure }, { on := 6, ground := Go.Ground.phase }, { on := 7, ground := Go.Ground.phase }], guard := none }) rfl (fun K hK => ?_) AllReadyH.nil
    have s0 : v22.cell? ⟨v21.heap.size, 0, none⟩ = some (.int .u64 0) := K6_v22.out.cell 0
    have s_0 := K6_v22.out.free 0
    have s1 : v22.cell? ⟨v21.heap.size, 1, none⟩ = some (.int .u64 0) := K6_v22.out.cell 1
    have s_1 := K6_v22.out.free 1
    have s2 : v22.cell? ⟨v21.heap.size, 2, none⟩ = some (.bool false) := K6_v22.out.cell 2
    have s_2 := K6_v22.out.free 2
    go_simp
    obtain ⟨v23, h_v23⟩ : ∃ v, (((v22.setCell ⟨v21.heap.size, 0, none⟩ (.int .u64 0)).setCell ⟨v21.heap.size, 1, none⟩ (.int .u64 (a : Int))).setCell ⟨v21.heap.size, 2, none⟩ (.bool b1)) = v := ⟨_, rfl⟩
    rw [h_v23]
    clear s0 s1 s2 s_0 s_1 s_2
    have X1_v23 : Hid (Blk v23 w.heap.size (ncells n An cn Ak F.nil.len ck).toArray 25) := by show Blk _ _ _ _; rw [← h_v23]; exact ((((show Blk v22 w.heap.size (ncells n An cn Ak F.nil.len ck).toArray 25 from (ST_v22.out.box 0 rfl).1).set_other 0 _ (by omega)).set_other 1 _ (by omega)).set_other 2 _ (by omega))
    have X2_v23 : Hid (Blk v23 (w.heap.size + 1) (ncells m Bn dn Bk F.nil.len dk).toArray 25) := by show Blk _ _ _ _; rw [← h_v23]; exact ((((show Blk v22 (w.heap.size + 1) (ncells m Bn dn Bk F.nil.len dk).toArray 25 from (ST_v22.out.box 1 rfl).1).set_other 0 _ (by omega)).set_other 1 _ (by omega)).set_other 2 _ (by omega))
    have R_v23 : Hid (Blk v23 (w.heap.size + 1 + 1) #[.int .i64 0, .int .i64 0, .int .i64 0, .string ⟨#[]⟩, .slice none 0 0, .slice none 0 0] 25) := by show Blk _ _ _ _; rw [← h_v23]; exact (((R_v22.out.set_other 0 _ (by omega)).set_other 1 _ (by omega)).set_other 2 _ (by omega))
    have BW_v23 : Hid (Below w.heap.size w v23) := by show Below _ _ _; rw [← h_v23]; exact ((ST_v22.out.1.setCell (by show _ ≤ v21.heap.size; omega) _).setCell (by show _ ≤ v21.heap.size; omega) _).setCell (by show _ ≤ v21.heap.size; omega) _
    have K6_v23 : Hid (Blk v23 v21.heap.size #[.int .u64 0, .int .u64 (a : Int), .bool b1] 55) := by show Blk _ _ _ _; rw [← h_v23]; exact Blk.tri_set K6_v22.out
    have K7_v23 : Hid (Blk v23 v1.heap.size #[.int .u64 0, .int .u64 0, .bool false] 55) := by show Blk _ _ _ _; rw [← h_v23]; exact (((K7_v22.out.set_other 0 _ (by omega)).set_other 1 _ (by omega)).set_other 2 _ (by omega))
    have y1_v23 : v23.cell? ⟨w.heap.size, 1, none⟩ = some (.int .i64 n.int) := X1_v23.out.cell 1
    have y3_v23 : v23.cell? ⟨w.heap.size + 1, 1, none⟩ = some (.int .i64 m.int) := X2_v23.out.cell 1
    refine hK.out _ _ (⟨y1_v23, y3_v23⟩) (fun hHeld => ?_)
    clear hK K
    try simp only [Act.put, List.setIfInBounds_toArray, List.set_cons_zero, List.set_cons_succ]
    refine wpAnyH_ready (rs := [9]) (by kernel_rfl) (by simp) ?_
    refine AllReadyH.cons (o := { dst := none, op := Go.Op.store 55 (Go.Operand.tmp 7) (Go.Operand.tmp 21), type := 0, pos := "decimal.go:127", after := #[{ on := 7, ground := Go.Ground.data }, { on := 5, ground := Go.Ground.data }, { on := 8, ground := Go.Ground.chain }, { on := 0, ground := Go.Ground.phase }, { on := 1, ground := Go.Ground.phase }, { on := 2, ground := Go.Ground.phase }, { on := 3, ground := Go.Ground.phase }, { on := 4, ground := Go.Ground.phase }, { on := 5, ground := Go.Ground.phase }, { on := 6, ground := Go.Ground.phase }, { on := 7, ground := Go.Ground.phase }, { on := 8, ground := Go.Ground.phase }], guard := none }) rfl (fun K hK => ?_) AllReadyH.nil
    have s0 : v23.cell? ⟨v1.heap.size, 0, none⟩ = some (.int .u64 0) := K7_v23.out.cell 0
    have s_0 := K7_v23.out.free 0
    have s1 : v23.cell? ⟨v1.heap.size, 1, none⟩ = some (.int .u64 0) := K7_v23.out.cell 1
    have s_1 := K7_v23.out.free 1
    have s2 : v23.cell? ⟨v1.heap.size, 2, none⟩ = some (.bool false) := K7_v23.out.cell 2
    have s_2 := K7_v23.out.free 2
    go_simp
    obtain ⟨v24, h_v24⟩ : ∃ v, (((v23.setCell ⟨v1.heap.size, 0, none⟩ (.int .u64 0)).setCell ⟨v1.heap.size, 1, none⟩ (.int .u64 (b : Int))).setCell ⟨v1.heap.size, 2, none⟩ (.bool b2)) = v := ⟨_, rfl⟩
    rw [h_v24]
    clear s0 s1 s2 s_0 s_1 s_2
    have X1_v24 : Hid (Blk v24 w.heap.size (ncells n An cn Ak F.nil.len ck).toArray 25) := by show Blk _ _ _ _; rw [← h_v24]; exact ((((show Blk v23 w.heap.size (ncells n An cn Ak F.nil.len ck).toArray 25 from X1_v23.out).set_other 0 _ (by omega)).set_other 1 _ (by omega)).set_other 2 _ (by omega))
    have X2_v24 : Hid (Blk v24 (w.heap.size + 1) (ncells m Bn dn Bk F.nil.len dk).toArray 25) := by show Blk _ _ _ _; rw [← h_v24]; exact ((((show Blk v23 (w.heap.size + 1) (ncells m Bn dn Bk F.nil.len dk).toArray 25 from X2_v23.out).set_other 0 _ (by omega)).set_other 1 _ (by omega)).set_other 2 _ (by omega))
    have R_v24 : Hid (Blk v24 (w.heap.size + 1 + 1) #[.int .i64 0, .int .i64 0, .int .i64 0, .string ⟨#[]⟩, .slice none 0 0, .slice none 0 0] 25) := by show Blk _ _ _ _; rw [← h_v24]; exact (((R_v23.out.set_other 0 _ (by omega)).set_other 1 _ (by omega)).set_other 2 _ (by omega))
    have BW_v24 : Hid (Below w.heap.size w v24) := by show Below _ _ _; rw [← h_v24]; exact ((BW_v23.out.setCell (by show _ ≤ v1.heap.size; omega) _).setCell (by show _ ≤ v1.heap.size; omega) _).setCell (by show _ ≤ v1.heap.size; omega) _
    have K7_v24 : Hid (Blk v24 v1.heap.size #[.int .u64 0, .int .u64 (b : Int), .bool b2] 55) := by show Blk _ _ _ _; rw [← h_v24]; exact Blk.tri_set K7_v23.out
    have K6_v24 : Hid (Blk v24 v21.heap.size #[.int .u64 0, .int .u64 (a : Int), .bool b1] 55) := by show Blk _ _ _ _; rw [← h_v24]; exact (((K6_v23.out.set_other 0 _ (by omega)).set_other 1 _ (by omega)).set_other 2 _ (by omega))
    have y1_v24 : v24.cell? ⟨w.heap.size, 1, none⟩ = some (.int .i64 n.int) := X1_v24.out.cell 1
    have y3_v24 : v24.cell? ⟨w.heap.size + 1, 1, none⟩ = some (.int .i64 m.int) := X2_v24.out.cell 1
    have FIN : ∃ (wz : World) (g6 g7 : Nat), wz = v24 ∧ g6 = v21.heap.size ∧ g7 = v1.heap.size := ⟨_, _, _, rfl, rfl, rfl⟩
    have FINH : Hid (Blk v24 w.heap.size (ncells n An cn Ak F.nil.len ck).toArray 25 ∧ Blk v24 (w.heap.size + 1) (ncells m Bn dn Bk F.nil.len dk).toArray 25 ∧ Blk v24 (w.heap.size + 1 + 1) #[.int .i64 0, .int .i64 0, .int .i64 0, .string ⟨#[]⟩, .slice none 0 0, .slice none 0 0] 25 ∧ Below w.heap.size w v24 ∧ Blk v24 v21.heap.size #[.int .u64 0, .int .u64 (a : Int), .bool b1] 55 ∧ Blk v24 v1.heap.size #[.int .u64 0, .int .u64 (b : Int), .bool b2] 55) := ⟨X1_v24.out, X2_v24.out, R_v24.out, BW_v24.out, K6_v24.out, K7_v24.out⟩
    have e1 : v24.cell? ⟨v21.heap.size, 1, none⟩ = some (.int .u64 (a : Int)) := K6_v24.out.cell 1
    have e2 : v24.cell? ⟨v21.heap.size, 2, none⟩ = some (.bool b1) := K6_v24.out.cell 2
    have e3 : v24.cell? ⟨v1.heap.size, 1, none⟩ = some (.int .u64 (b : Int)) := K7_v24.out.cell 1
    have e4 : v24.cell? ⟨v1.heap.size, 2, none⟩ = some (.bool b2) := K7_v24.out.cell 2
    have e5 : v24.cell? ⟨w.heap.size, 2, none⟩ = some (.int .i64 n.scale) := X1_v24.out.cell 2
    have e6 : v24.cell? ⟨w.heap.size + 1, 2, none⟩ = some (.int .i64 m.scale) := X2_v24.out.cell 2
    refine hK.out _ _ (⟨y1_v24, y3_v24⟩) (fun hHeld => ?_)
    clear hK K
    try simp only [Act.put, List.setIfInBounds_toArray, List.set_cons_zero, List.set_cons_succ]
    refine wpAnyH_done (by kernel_rfl) ?_ _
    rotate_left 1
    refine AllReadyH.cons (o := { dst := some 6, op := Go.Op.alloc 55, type := 0, pos := "decimal.go:127", after := #[], guard := none }) rfl (fun K hK => ?_) AllReadyH.nil
    go_simp
    obtain ⟨v25, h_v25⟩ : ∃ v, v20.alloc (.cells #[.int .u64 0, .int .u64 0, .bool false] 55) = v := ⟨_, rfl⟩
    rw [h_v25]
    have b_v25 : Below v20.heap.size v20 v25 := by rw [← h_v25]; exact below_ra _ _
    have ST_v25 : Hid (St w [⟨w.heap.size, n, .nil, An, cn, Ak, ck⟩, ⟨w.heap.size + 1, m, .nil, Bn, dn, Bk, dk⟩] v25) := ST_v20.out.step b_v25
    have R_v25 : Hid (Blk v25 (w.heap.size + 1 + 1) #[.int .i64 0, .int .i64 0, .int .i64 0, .string ⟨#[]⟩, .slice none 0 0, .slice none 0 0] 25) := R_v20.out.below b_v25 R_v20.out.lt
    have K7_v25 : Hid (Blk v25 v1.heap.size #[.int .u64 0, .int .u64 0, .bool false] 55) := K7_v20.out.below b_v25 K7_v20.out.lt
    have K6_v25 : Hid (Blk v25 v20.heap.size #[.int .u64 0, .int .u64 0, .bool false] 55) := by show Blk _ _ _ _; rw [← h_v25]; exact Blk.new _ _ _
    have hne : v20.heap.size ≠ v1.heap.size := by have := K7_v20.out.lt; omega
    have hg6 : w.heap.size + 1 + 1 < v20.heap.size := R_v20.out.lt
    have y1_v25 : v25.cell? ⟨w.heap.size, 1, none⟩ = some (.int .i64 n.int) := (ST_v25.out.six 0 rfl).2.1
    have y3_v25 : v25.cell? ⟨w.heap.size + 1, 1, none⟩ = some (.int .i64 m.int) := (ST_v25.out.six 1 rfl).2.1
    refine hK.out _ _ (⟨y1_v25, y3_v25⟩) (fun hHeld => ?_)
    clear hK K
    try simp only [Act.put, List.setIfInBounds_toArray, List.set_cons_zero, List.set_cons_succ]
    refine wpAnyH_ready (rs := [5]) (by kernel_rfl) (by simp) ?_
    refine AllReadyH.cons (o := { dst := some 21, op := Go.Op.call { callee := Go.Callee.value (Go.Operand.func 31), args := #[Go.Operand.tmp 20, Go.Operand.const (Go.Value.int Go.IntKind.i64 0)], argTypes := #[3, 3] }, type := 55, pos := "decimal.go:127", after := #[{ on := 4, ground := Go.Ground.data }, { on := 2, ground := Go.Ground.chain }], guard := none }) rfl (fun K hK => ?_) AllReadyH.nil
    go_simp
    refine (HO2.out _).mono ?_
    rintro e v26 ⟨rfl, b_v26⟩
    have ST_v26 : Hid (St w [⟨w.heap.size, n, .nil, An, cn, Ak, ck⟩, ⟨w.heap.size + 1, m, .nil, Bn, dn, Bk, dk⟩] v26) := ST_v25.out.step b_v26
    have R_v26 : Hid (Blk v26 (w.heap.size + 1 + 1) #[.int .i64 0, .int .i64 0, .int .i64 0, .string ⟨#[]⟩, .slice none 0 0, .slice none 0 0] 25) := R_v25.out.below b_v26 R_v25.out.lt
    have K6_v26 : Hid (Blk v26 v20.heap.size #[.int .u64 0, .int .u64 0, .bool false] 55) := K6_v25.out.below b_v26 K6_v25.out.lt
    have K7_v26 : Hid (Blk v26 v1.heap.size #[.int .u64 0, .int .u64 0, .bool false] 55) := K7_v25.out.below b_v26 K7_v25.out.lt
    have y1_v26 : v26.cell? ⟨w.heap.size, 1, none⟩ = some (.int .i64 n.int) := (ST_v26.out.six 0 rfl).2.1
    have y3_v26 : v26.cell? ⟨w.heap.size + 1, 1, none⟩ = some (.int .i64 m.int) := (ST_v26.out.six 1 rfl).2.1
    go_wp2_with fail
    refine hK.out _ _ (⟨y1_v26, y3_v26⟩) (fun hHeld => ?_)
    clear hK K
    try simp only [Act.put, List.setIfInBounds_toArray, List.set_cons_zero, List.set_cons_succ]
    refine wpAnyH_ready (rs := [8]) (by kernel_rfl) (by simp) ?_
    refine AllReadyH.cons (o := { dst := none, op := Go.Op.store 55 (Go.Operand.tmp 6) (Go.Operand.tmp 18), type := 0, pos := "decimal.go:127", after := #[{ on := 6, ground := Go.Ground.data }, { on := 2, ground := Go.Ground.data }, { on := 5, ground := Go.Ground.chain }, { on := 0, ground := Go.Ground.phase }, { on := 1, ground := Go.Ground.phase }, { on := 2, ground := Go.Ground.phase }, { on := 3, ground := Go.Ground.textOnly Go.Departure.lateStores }, { on := 4, ground := Go.Ground.textOnly Go.Departure.lateStores }, { on := 5, ground := Go.Ground.textOnly Go.Departure.lateStoresUnsure }, { on := 6, ground := Go.Ground.phase }, { on := 7, ground := Go.Ground.phase }], guard := none }) rfl (fun K hK => ?_) AllReadyH.nil
    have s0 : v26.cell? ⟨v20.heap.size, 0, none⟩ = some (.int .u64 0) := K6_v26.out.cell 0
    have s_0 := K6_v26.out.free 0
    have s1 : v26.cell? ⟨v20.heap.size, 1, none⟩ = some (.int .u64 0) := K6_v26.out.cell 1
    have s_1 := K6_v26.out.free 1
    have s2 : v26.cell? ⟨v20.heap.size, 2, none⟩ = some (.bool false) := K6_v26.out.cell 2
    have s_2 := K6_v26.out.free 2
    go_simp
    obtain ⟨v27, h_v27⟩ : ∃ v, (((v26.setCell ⟨v20.heap.size, 0, none⟩ (.int .u64 0)).setCell ⟨v20.heap.size, 1, none⟩ (.int .u64 (a : Int))).setCell ⟨v20.heap.size, 2, none⟩ (.bool b1)) = v := ⟨_, rfl⟩
    rw [h_v27]
    clear s0 s1 s2 s_0 s_1 s_2
    have X1_v27 : Hid (Blk v27 w.heap.size (ncells n An cn Ak F.nil.len ck).toArray 25) := by show Blk _ _ _ _; rw [← h_v27]; exact ((((show Blk v26 w.heap.size (ncells n An cn Ak F.nil.len ck).toArray 25 from (ST_v26.out.box 0 rfl).1).set_other 0 _ (by omega)).set_other 1 _ (by omega)).set_other 2 _ (by omega))
    have X2_v27 : Hid (Blk v27 (w.heap.size + 1) (ncells m Bn dn Bk F.nil.len dk).toArray 25) := by show Blk _ _ _ _; rw [← h_v27]; exact ((((show Blk v26 (w.heap.size + 1) (ncells m Bn dn Bk F.nil.len dk).toArray 25 from (ST_v26.out.box 1 rfl).1).set_other 0 _ (by omega)).set_other 1 _ (by omega)).set_other 2 _ (by omega))
    have R_v27 : Hid (Blk v27 (w.heap.size + 1 + 1) #[.int .i64 0, .int .i64 0, .int .i64 0, .string ⟨#[]⟩, .slice none 0 0, .slice none 0 0] 25) := by show Blk _ _ _ _; rw [← h_v27]; exact (((R_v26.out.set_other 0 _ (by omega)).set_other 1 _ (by omega)).set_other 2 _ (by omega))
    have BW_v27 : Hid (Below w.heap.size w v27) := by show Below _ _ _; rw [← h_v27]; exact ((ST_v26.out.1.setCell (by show _ ≤ v20.heap.size; omega) _).setCell (by show _ ≤ v20.heap.size; omega) _).setCell (by show _ ≤ v20.heap.size; omega) _
    have K6_v27 : Hid (Blk v27 v20.heap.size #[.int .u64 0, .int .u64 (a : Int), .bool b1] 55) := by show Blk _ _ _ _; rw [← h_v27]; exact Blk.tri_set K6_v26.out
    have K7_v27 : Hid (Blk v27 v1.heap.size #[.int .u64 0, .int .u64 0, .bool false] 55) := by show Blk _ _ _ _; rw [← h_v27]; exact (((K7_v26.out.set_other 0 _ (by omega)).set_other 1 _ (by omega)).set_other 2 _ (by omega))
    have y1_v27 : v27.cell? ⟨w.heap.size, 1, none⟩ = some (.int .i64 n.int) := X1_v27.out.cell 1
    have y3_v27 : v27.cell? ⟨w.heap.size + 1, 1, none⟩ = some (.int .i64 m.int) := X2_v27.out.cell 1
    refine hK.out _ _ (⟨y1_v27, y3_v27⟩) (fun hHeld => ?_)
    clear hK K
    try simp only [Act.put, List.setIfInBounds_toArray, List.set_cons_zero, List.set_cons_succ]
    refine wpAnyH_ready (rs := [9]) (by kernel_rfl) (by simp) ?_
    refine AllReadyH.cons (o := { dst := none, op := Go.Op.store 55 (Go.Operand.tmp 7) (Go.Operand.tmp 21), type := 0, pos := "decimal.go:127", after := #[{ on := 7, ground := Go.Ground.data }, { on := 5, ground := Go.Ground.data }, { on := 8, ground := Go.Ground.chain }, { on := 0, ground := Go.Ground.phase }, { on := 1, ground := Go.Ground.phase }, { on := 2, ground := Go.Ground.phase }, { on := 3, ground := Go.Ground.phase }, { on := 4, ground := Go.Ground.phase }, { on := 5, ground := Go.Ground.phase }, { on := 6, ground := Go.Ground.phase }, { on := 7, ground := Go.Ground.phase }, { on := 8, ground := Go.Ground.phase }], guard := none }) rfl (fun K hK => ?_) AllReadyH.nil
    have s0 : v27.cell? ⟨v1.heap.size, 0, none⟩ = some (.int .u64 0) := K7_v27.out.cell 0
    have s_0 := K7_v27.out.free 0
    have s1 : v27.cell? ⟨v1.heap.size, 1, none⟩ = some (.int .u64 0) := K7_v27.out.cell 1
    have s_1 := K7_v27.out.free 1
    have s2 : v27.cell? ⟨v1.heap.size, 2, none⟩ = some (.bool false) := K7_v27.out.cell 2
    have s_2 := K7_v27.out.free 2
    go_simp
    obtain ⟨v28, h_v28⟩ : ∃ v, (((v27.setCell ⟨v1.heap.size, 0, none⟩ (.int .u64 0)).setCell ⟨v1.heap.size, 1, none⟩ (.int .u64 (b : Int))).setCell ⟨v1.heap.size, 2, none⟩ (.bool b2)) = v := ⟨_, rfl⟩
    rw [h_v28]
    clear s0 s1 s2 s_0 s_1 s_2
    have X1_v28 : Hid (Blk v28 w.heap.size (ncells n An cn Ak F.nil.len ck).toArray 25) := by show Blk _ _ _ _; rw [← h_v28]; exact ((((show Blk v27 w.heap.size (ncells n An cn Ak F.nil.len ck).toArray 25 from X1_v27.out).set_other 0 _ (by omega)).set_other 1 _ (by omega)).set_other 2 _ (by omega))
    have X2_v28 : Hid (Blk v28 (w.heap.size + 1) (ncells m Bn dn Bk F.nil.len dk).toArray 25) := by show Blk _ _ _ _; rw [← h_v28]; exact ((((show Blk v27 (w.heap.size + 1) (ncells m Bn dn Bk F.nil.len dk).toArray 25 from X2_v27.out).set_other 0 _ (by omega)).set_other 1 _ (by omega)).set_other 2 _ (by omega))
    have R_v28 : Hid (Blk v28 (w.heap.size + 1 + 1) #[.int .i64 0, .int .i64 0, .int .i64 0, .string ⟨#[]⟩, .slice none 0 0, .slice none 0 0] 25) := by show Blk _ _ _ _; rw [← h_v28]; exact (((R_v27.out.set_other 0 _ (by omega)).set_other 1 _ (by omega)).set_other 2 _ (by omega))
    have BW_v28 : Hid (Below w.heap.size w v28) := by show Below _ _ _; rw [← h_v28]; exact ((BW_v27.out.setCell (by show _ ≤ v1.heap.size; omega) _).setCell (by show _ ≤ v1.heap.size; omega) _).setCell (by show _ ≤ v1.heap.size; omega) _
    have K7_v28 : Hid (Blk v28 v1.heap.size #[.int .u64 0, .int .u64 (b : Int), .bool b2] 55) := by show Blk _ _ _ _; rw [← h_v28]; exact Blk.tri_set K7_v27.out
    have K6_v28 : Hid (Blk v28 v20.heap.size #[.int .u64 0, .int .u64 (a : Int), .bool b1] 55) := by show Blk _ _ _ _; rw [← h_v28]; exact (((K6_v27.out.set_other 0 _ (by omega)).set_other 1 _ (by omega)).set_other 2 _ (by omega))
    have y1_v28 : v28.cell? ⟨w.heap.size, 1, none⟩ = some (.int .i64 n.int) := X1_v28.out.cell 1
    have y3_v28 : v28.cell? ⟨w.heap.size + 1, 1, none⟩ = some (.int .i64 m.int) := X2_v28.out.cell 1
    have FIN : ∃ (wz : World) (g6 g7 : Nat), wz = v28 ∧ g6 = v20.heap.size ∧ g7 = v1.heap.size := ⟨_, _, _, rfl, rfl, rfl⟩
    have FINH : Hid (Blk v28 w.heap.size (ncells n An cn Ak F.nil.len ck).toArray 25 ∧ Blk v28 (w.heap.size + 1) (ncells m Bn dn Bk F.nil.len dk).toArray 25 ∧ Blk v28 (w.heap.size + 1 + 1) #[.int .i64 0, .int .i64 0, .int .i64 0, .string ⟨#[]⟩, .slice none 0 0, .slice none 0 0] 25 ∧ Below w.heap.size w v28 ∧ Blk v28 v20.heap.size #[.int .u64 0, .int .u64 (a : Int), .bool b1] 55 ∧ Blk v28 v1.heap.size #[.int .u64 0, .int .u64 (b : Int), .bool b2] 55) := ⟨X1_v28.out, X2_v28.out, R_v28.out, BW_v28.out, K6_v28.out, K7_v28.out⟩
    have e1 : v28.cell? ⟨v20.heap.size, 1, none⟩ = some (.int .u64 (a : Int)) := K6_v28.out.cell 1
    have e2 : v28.cell? ⟨v20.heap.size, 2, none⟩ = some (.bool b1) := K6_v28.out.cell 2
    have e3 : v28.cell? ⟨v1.heap.size, 1, none⟩ = some (.int .u64 (b : Int)) := K7_v28.out.cell 1
    have e4 : v28.cell? ⟨v1.heap.size, 2, none⟩ = some (.bool b2) := K7_v28.out.cell 2
    have e5 : v28.cell? ⟨w.heap.size, 2, none⟩ = some (.int .i64 n.scale) := X1_v28.out.cell 2
    have e6 : v28.cell? ⟨w.heap.size + 1, 2, none⟩ = some (.int .i64 m.scale) := X2_v28.out.cell 2
    refine hK.out _ _ (⟨y1_v28, y3_v28⟩) (fun hHeld => ?_)
    clear hK K
    try simp only [Act.put, List.setIfInBounds_toArray, List.set_cons_zero, List.set_cons_succ]
    refine wpAnyH_done (by kernel_rfl) ?_ _
    rotate_left 1
    refine AllReadyH.cons (o := { dst := some 6, op := Go.Op.alloc 55, type := 0, pos := "decimal.go:127", after := #[], guard := none }) rfl (fun K hK => ?_) ?_
    go_simp
    obtain ⟨v29, h_v29⟩ : ∃ v, v0w.alloc (.cells #[.int .u64 0, .int .u64 0, .bool false] 55) = v := ⟨_, rfl⟩
    rw [h_v29]
    have b_v29 : Below v0w.heap.size v0w v29 := by rw [← h_v29]; exact below_ra _ _
    have ST_v29 : Hid (St w [⟨w.heap.size, n, .nil, An, cn, Ak, ck⟩, ⟨w.heap.size + 1, m, .nil, Bn, dn, Bk, dk⟩] v29) := ST_v0.out.step b_v29
    have R_v29 : Hid (Blk v29 (w.heap.size + 1 + 1) #[.int .i64 0, .int .i64 0, .int .i64 0, .string ⟨#[]⟩, .slice none 0 0, .slice none 0 0] 25) := R_v0.out.below b_v29 R_v0.out.lt
    have K6_v29 : Hid (Blk v29 v0w.heap.size #[.int .u64 0, .int .u64 0, .bool false] 55) := by show Blk _ _ _ _; rw [← h_v29]; exact Blk.new _ _ _
    have hg6 : w.heap.size + 1 + 1 < v0w.heap.size := R_v0.out.lt
    have y1_v29 : v29.cell? ⟨w.heap.size, 1, none⟩ = some (.int .i64 n.int) := (ST_v29.out.six 0 rfl).2.1
    have y3_v29 : v29.cell? ⟨w.heap.size + 1, 1, none⟩ = some (.int .i64 m.int) := (ST_v29.out.six 1 rfl).2.1
    refine hK.out _ _ (⟨y1_v29, y3_v29⟩) (fun hHeld => ?_)
    clear hK K
    try simp only [Act.put, List.setIfInBounds_toArray, List.set_cons_zero, List.set_cons_succ]
    refine wpAnyH_ready (rs := [2, 7]) (by kernel_rfl) (by simp) ?_
    refine AllReadyH.cons (o := { dst := some 18, op := Go.Op.call { callee := Go.Callee.value (Go.Operand.func 31), args := #[Go.Operand.tmp 17, Go.Operand.const (Go.Value.int Go.IntKind.i64 0)], argTypes := #[3, 3] }, type := 55, pos := "decimal.go:127", after := #[{ on := 1, ground := Go.Ground.data }], guard := none }) rfl (fun K hK => ?_) ?_
    go_simp
    refine (HO1.out _).mono ?_
    rintro e v30 ⟨rfl, b_v30⟩
    have ST_v30 : Hid (St w [⟨w.heap.size, n, .nil, An, cn, Ak, ck⟩, ⟨w.heap.size + 1, m, .nil, Bn, dn, Bk, dk⟩] v30) := ST_v29.out.step b_v30
    have R_v30 : Hid (Blk v30 (w.heap.size + 1 + 1) #[.int .i64 0, .int .i64 0, .int .i64 0, .string ⟨#[]⟩, .slice none 0 0, .slice none 0 0] 25) := R_v29.out.below b_v30 R_v29.out.lt
    have K6_v30 : Hid (Blk v30 v0w.heap.size #[.int .u64 0, .int .u64 0, .bool false] 55) := K6_v29.out.below b_v30 K6_v29.out.lt
    have y1_v30 : v30.cell? ⟨w.heap.size, 1, none⟩ = some (.int .i64 n.int) := (ST_v30.out.six 0 rfl).2.1
    have y3_v30 : v30.cell? ⟨w.heap.size + 1, 1, none⟩ = some (.int .i64 m.int) := (ST_v30.out.six 1 rfl).2.1
    go_wp2_with fail
    refine hK.out _ _ (⟨y1_v30, y3_v30⟩) (fun hHeld => ?_)
    clear hK K
    try simp only [Act.put, List.setIfInBounds_toArray, List.set_cons_zero, List.set_cons_succ]
    refine wpAnyH_ready (rs := [5, 7]) (by kernel_rfl) (by simp) ?_
    refine AllReadyH.cons (o := { dst := some 21, op := Go.Op.call { callee := Go.Callee.value (Go.Operand.func 31), args := #[Go.Operand.tmp 20, Go.Operand.const (Go.Value.int Go.IntKind.i64 0)], argTypes := #[3, 3] }, type := 55, pos := "decimal.go:127", after := #[{ on := 4, ground := Go.Ground.data }, { on := 2, ground := Go.Ground.chain }], guard := none }) rfl (fun K hK => ?_) ?_
    go_simp
    refine (HO2.out _).mono ?_
    rintro e v31 ⟨rfl, b_v31⟩
    have ST_v31 : Hid (St w [⟨w.heap.size, n, .nil, An, cn, Ak, ck⟩, ⟨w.heap.size + 1, m, .nil, Bn, dn, Bk, dk⟩] v31) := ST_v30.out.step b_v31
    have R_v31 : Hid (Blk v31 (w.heap.size + 1 + 1) #[.int .i64 0, .int .i64 0, .int .i64 0, .string ⟨#[]⟩, .slice none 0 0, .slice none 0 0] 25) := R_v30.out.below b_v31 R_v30.out.lt
    have K6_v31 : Hid (Blk v31 v0w.heap.size #[.int .u64 0, .int .u64 0, .bool false] 55) := K6_v30.out.below b_v31 K6_v30.out.lt
    have y1_v31 : v31.cell? ⟨w.heap.size, 1, none⟩ = some (.int .i64 n.int) := (ST_v31.out.six 0 rfl).2.1
    have y3_v31 : v31.cell? ⟨w.heap.size + 1, 1, none⟩ = some (.int .i64 m.int) := (ST_v31.out.six 1 rfl).2.1
    go_wp2_with fail
    refine hK.out _ _ (⟨y1_v31, y3_v31⟩) (fun hHeld => ?_)
    clear hK K
    try simp only [Act.put, List.setIfInBounds_toArray, List.set_cons_zero, List.set_cons_succ]
    refine wpAnyH_ready (rs := [7]) (by kernel_rfl) (by simp) ?_
    refine AllReadyH.cons (o := { dst := some 7, op := Go.Op.alloc 55, type := 0, pos := "decimal.go:127", after := #[], guard := none }) rfl (fun K hK => ?_) AllReadyH.nil
    go_simp
    obtain ⟨v32, h_v32⟩ : ∃ v, v31.alloc (.cells #[.int .u64 0, .int .u64 0, .bool false] 55) = v := ⟨_, rfl⟩
    rw [h_v32]
    have b_v32 : Below v31.heap.size v31 v32 := by rw [← h_v32]; exact below_ra _ _
    have ST_v32 : Hid (St w [⟨w.heap.size, n, .nil, An, cn, Ak, ck⟩, ⟨w.heap.size + 1, m, .nil, Bn, dn, Bk, dk⟩] v32) := ST_v31.out.step b_v32
    have R_v32 : Hid (Blk v32 (w.heap.size + 1 + 1) #[.int .i64 0, .int .i64 0, .int .i64 0, .string ⟨#[]⟩, .slice none 0 0, .slice none 0 0] 25) := R_v31.out.below b_v32 R_v31.out.lt
    have K6_v32 : Hid (Blk v32 v0w.heap.size #[.int .u64 0, .int .u64 0, .bool false] 55) := K6_v31.out.below b_v32 K6_v31.out.lt
    have K7_v32 : Hid (Blk v32 v31.heap.size #[.int .u64 0, .int .u64 0, .bool false] 55) := by show Blk _ _ _ _; rw [← h_v32]; exact Blk.new _ _ _
    have hne : v0w.heap.size ≠ v31.heap.size := by have := K6_v31.out.lt; omega
    have hg7 : w.heap.size + 1 + 1 < v31.heap.size := R_v31.out.lt
    have y1_v32 : v32.cell? ⟨w.heap.size, 1, none⟩ = some (.int .i64 n.int) := (ST_v32.out.six 0 rfl).2.1
    have y3_v32 : v32.cell? ⟨w.heap.size + 1, 1, none⟩ = some (.int .i64 m.int) := (ST_v32.out.six 1 rfl).2.1
    refine hK.out _ _ (⟨y1_v32, y3_v32⟩) (fun hHeld => ?_)
    clear hK K
    try simp only [Act.put, List.setIfInBounds_toArray, List.set_cons_zero, List.set_cons_succ]
    refine wpAnyH_ready (rs := [8]) (by kernel_rfl) (by simp) ?_
    refine AllReadyH.cons (o := { dst := none, op := Go.Op.store 55 (Go.Operand.tmp 6) (Go.Operand.tmp 18), type := 0, pos := "decimal.go:127", after := #[{ on := 6, ground := Go.Ground.data }, { on := 2, ground := Go.Ground.data }, { on := 5, ground := Go.Ground.chain }, { on := 0, ground := Go.Ground.phase }, { on := 1, ground := Go.Ground.phase }, { on := 2, ground := Go.Ground.phase }, { on := 3, ground := Go.Ground.textOnly Go.Departure.lateStores }, { on := 4, ground := Go.Ground.textOnly Go.Departure.lateStores }, { on := 5, ground := Go.Ground.textOnly Go.Departure.lateStoresUnsure }, { on := 6, ground := Go.Ground.phase }, { on := 7, ground := Go.Ground.phase }], guard := none }) rfl (fun K hK => ?_) AllReadyH.nil
    have s0 : v32.cell? ⟨v0w.heap.size, 0, none⟩ = some (.int .u64 0) := K6_v32.out.cell 0
    have s_0 := K6_v32.out.free 0
    have s1 : v32.cell? ⟨v0w.heap.size, 1, none⟩ = some (.int .u64 0) := K6_v32.out.cell 1
    have s_1 := K6_v32.out.free 1
    have s2 : v32.cell? ⟨v0w.heap.size, 2, none⟩ = some (.bool false) := K6_v32.out.cell 2
    have s_2 := K6_v32.out.free 2
    go_simp
    obtain ⟨v33, h_v33⟩ : ∃ v, (((v32.setCell ⟨v0w.heap.size, 0, none⟩ (.int .u64 0)).setCell ⟨v0w.heap.size, 1, none⟩ (.int .u64 (a : Int))).setCell ⟨v0w.heap.size, 2, none⟩ (.bool b1)) = v := ⟨_, rfl⟩
    rw [h_v33]
    clear s0 s1 s2 s_0 s_1 s_2
    have X1_v33 : Hid (Blk v33 w.heap.size (ncells n An cn Ak F.nil.len ck).toArray 25) := by show Blk _ _ _ _; rw [← h_v33]; exact ((((show Blk v32 w.heap.size (ncells n An cn Ak F.nil.len ck).toArray 25 from (ST_v32.out.box 0 rfl).1).set_other 0 _ (by omega)).set_other 1 _ (by omega)).set_other 2 _ (by omega))
    have X2_v33 : Hid (Blk v33 (w.heap.size + 1) (ncells m Bn dn Bk F.nil.len dk).toArray 25) := by show Blk _ _ _ _; rw [← h_v33]; exact ((((show Blk v32 (w.heap.size + 1) (ncells m Bn dn Bk F.nil.len dk).toArray 25 from (ST_v32.out.box 1 rfl).1).set_other 0 _ (by omega)).set_other 1 _ (by omega)).set_other 2 _ (by omega))
    have R_v33 : Hid (Blk v33 (w.heap.size + 1 + 1) #[.int .i64 0, .int .i64 0, .int .i64 0, .string ⟨#[]⟩, .slice none 0 0, .slice none 0 0] 25) := by show Blk _ _ _ _; rw [← h_v33]; exact (((R_v32.out.set_other 0 _ (by omega)).set_other 1 _ (by omega)).set_other 2 _ (by omega))
    have BW_v33 : Hid (Below w.heap.size w v33) := by show Below _ _ _; rw [← h_v33]; exact ((ST_v32.out.1.setCell (by show _ ≤ v0w.heap.size; omega) _).setCell (by show _ ≤ v0w.heap.size; omega) _).setCell (by show _ ≤ v0w.heap.size; omega) _
    have K6_v33 : Hid (Blk v33 v0w.heap.size #[.int .u64 0, .int .u64 (a : Int), .bool b1] 55) := by show Blk _ _ _ _; rw [← h_v33]; exact Blk.tri_set K6_v32.out
    have K7_v33 : Hid (Blk v33 v31.heap.size #[.int .u64 0, .int .u64 0, .bool false] 55) := by show Blk _ _ _ _; rw [← h_v33]; exact (((K7_v32.out.set_other 0 _ (by omega)).set_other 1 _ (by omega)).set_other 2 _ (by omega))
    have y1_v33 : v33.cell? ⟨w.heap.size, 1, none⟩ = some (.int .i64 n.int) := X1_v33.out.cell 1
    have y3_v33 : v33.cell? ⟨w.heap.size + 1, 1, none⟩ = some (.int .i64 m.int) := X2_v33.out.cell 1
    refine hK.out _ _ (⟨y1_v33, y3_v33⟩) (fun hHeld => ?_)
    clear hK K
    try simp only [Act.put, List.setIfInBounds_toArray, List.set_cons_zero, List.set_cons_succ]
    refine wpAnyH_ready (rs := [9]) (by kernel_rfl) (by simp) ?_
    refine AllReadyH.cons (o := { dst := none, op := Go.Op.store 55 (Go.Operand.tmp 7) (Go.Operand.tmp 21), type := 0, pos := "decimal.go:127", after := #[{ on := 7, ground := Go.Ground.data }, { on := 5, ground := Go.Ground.data }, { on := 8, ground := Go.Ground.chain }, { on := 0, ground := Go.Ground.phase }, { on := 1, ground := Go.Ground.phase }, { on := 2, ground := Go.Ground.phase }, { on := 3, ground := Go.Ground.phase }, { on := 4, ground := Go.Ground.phase }, { on := 5, ground := Go.Ground.phase }, { on := 6, ground := Go.Ground.phase }, { on := 7, ground := Go.Ground.phase }, { on := 8, ground := Go.Ground.phase }], guard := none }) rfl (fun K hK => ?_) AllReadyH.nil
    have s0 : v33.cell? ⟨v31.heap.size, 0, none⟩ = some (.int .u64 0) := K7_v33.out.cell 0
    have s_0 := K7_v33.out.free 0
    have s1 : v33.cell? ⟨v31.heap.size, 1, none⟩ = some (.int .u64 0) := K7_v33.out.cell 1
    have s_1 := K7_v33.out.free 1
    have s2 : v33.cell? ⟨v31.heap.size, 2, none⟩ = some (.bool false) := K7_v33.out.cell 2
    have s_2 := K7_v33.out.free 2
    go_simp
    obtain ⟨v34, h_v34⟩ : ∃ v, (((v33.setCell ⟨v31.heap.size, 0, none⟩ (.int .u64 0)).setCell ⟨v31.heap.size, 1, none⟩ (.int .u64 (b : Int))).setCell ⟨v31.heap.size, 2, none⟩ (.bool b2)) = v := ⟨_, rfl⟩
    rw [h_v34]
    clear s0 s1 s2 s_0 s_1 s_2
    have X1_v34 : Hid (Blk v34 w.heap.size (ncells n An cn Ak F.nil.len ck).toArray 25) := by show Blk _ _ _ _; rw [← h_v34]; exact ((((show Blk v33 w.heap.size (ncells n An cn Ak F.nil.len ck).toArray 25 from X1_v33.out).set_other 0 _ (by omega)).set_other 1 _ (by omega)).set_other 2 _ (by omega))
    have X2_v34 : Hid (Blk v34 (w.heap.size + 1) (ncells m Bn dn Bk F.nil.len dk).toArray 25) := by show Blk _ _ _ _; rw [← h_v34]; exact ((((show Blk v33 (w.heap.size + 1) (ncells m Bn dn Bk F.nil.len dk).toArray 25 from X2_v33.out).set_other 0 _ (by omega)).set_other 1 _ (by omega)).set_other 2 _ (by omega))
    have R_v34 : Hid (Blk v34 (w.heap.size + 1 + 1) #[.int .i64 0, .int .i64 0, .int .i64 0, .string ⟨#[]⟩, .slice none 0 0, .slice none 0 0] 25) := by show Blk _ _ _ _; rw [← h_v34]; exact (((R_v33.out.set_other 0 _ (by omega)).set_other 1 _ (by omega)).set_other 2 _ (by omega))
    have BW_v34 : Hid (Below w.heap.size w v34) := by show Below _ _ _; rw [← h_v34]; exact ((BW_v33.out.setCell (by show _ ≤ v31.heap.size; omega) _).setCell (by show _ ≤ v31.heap.size; omega) _).setCell (by show _ ≤ v31.heap.size; omega) _
    have K7_v34 : Hid (Blk v34 v31.heap.size #[.int .u64 0, .int .u64 (b : Int), .bool b2] 55) := by show Blk _ _ _ _; rw [← h_v34]; exact Blk.tri_set K7_v33.out
    have K6_v34 : Hid (Blk v34 v0w.heap.size #[.int .u64 0, .int .u64 (a : Int), .bool b1] 55) := by show Blk _ _ _ _; rw [← h_v34]; exact (((K6_v33.out.set_other 0 _ (by omega)).set_other 1 _ (by omega)).set_other 2 _ (by omega))
    have y1_v34 : v34.cell? ⟨w.heap.size, 1, none⟩ = some (.int .i64 n.int) := X1_v34.out.cell 1
    have y3_v34 : v34.cell? ⟨w.heap.size + 1, 1, none⟩ = some (.int .i64 m.int) := X2_v34.out.cell 1
    have FIN : ∃ (wz : World) (g6 g7 : Nat), wz = v34 ∧ g6 = v0w.heap.size ∧ g7 = v31.heap.size := ⟨_, _, _, rfl, rfl, rfl⟩
    have FINH : Hid (Blk v34 w.heap.size (ncells n An cn Ak F.nil.len ck).toArray 25 ∧ Blk v34 (w.heap.size + 1) (ncells m Bn dn Bk F.nil.len dk).toArray 25 ∧ Blk v34 (w.heap.size + 1 + 1) #[.int .i64 0, .int .i64 0, .int .i64 0, .string ⟨#[]⟩, .slice none 0 0, .slice none 0 0] 25 ∧ Below w.heap.size w v34 ∧ Blk v34 v0w.heap.size #[.int .u64 0, .int .u64 (a : Int), .bool b1] 55 ∧ Blk v34 v31.heap.size #[.int .u64 0, .int .u64 (b : Int), .bool b2] 55) := ⟨X1_v34.out, X2_v34.out, R_v34.out, BW_v34.out, K6_v34.out, K7_v34.out⟩
    have e1 : v34.cell? ⟨v0w.heap.size, 1, none⟩ = some (.int .u64 (a : Int)) := K6_v34.out.cell 1
    have e2 : v34.cell? ⟨v0w.heap.size, 2, none⟩ = some (.bool b1) := K6_v34.out.cell 2
    have e3 : v34.cell? ⟨v31.heap.size, 1, none⟩ = some (.int .u64 (b : Int)) := K7_v34.out.cell 1
    have e4 : v34.cell? ⟨v31.heap.size, 2, none⟩ = some (.bool b2) := K7_v34.out.cell 2
    have e5 : v34.cell? ⟨w.heap.size, 2, none⟩ = some (.int .i64 n.scale) := X1_v34.out.cell 2
    have e6 : v34.cell? ⟨w.heap.size + 1, 2, none⟩ = some (.int .i64 m.scale) := X2_v34.out.cell 2
    refine hK.out _ _ (⟨y1_v34, y3_v34⟩) (fun hHeld => ?_)
    clear hK K
    try simp only [Act.put, List.setIfInBounds_toArray, List.set_cons_zero, List.set_cons_succ]
    refine wpAnyH_done (by kernel_rfl) ?_ _
    rotate_left 1
    refine AllReadyH.cons (o := { dst := some 7, op := Go.Op.alloc 55, type := 0, pos := "decimal.go:127", after := #[], guard := none }) rfl (fun K hK => ?_) AllReadyH.nil
    go_simp
    obtain ⟨v35, h_v35⟩ : ∃ v, v30.alloc (.cells #[.int .u64 0, .int .u64 0, .bool false] 55) = v := ⟨_, rfl⟩
    rw [h_v35]
    have b_v35 : Below v30.heap.size v30 v35 := by rw [← h_v35]; exact below_ra _ _
    have ST_v35 : Hid (St w [⟨w.heap.size, n, .nil, An, cn, Ak, ck⟩, ⟨w.heap.size + 1, m, .nil, Bn, dn, Bk, dk⟩] v35) := ST_v30.out.step b_v35
    have R_v35 : Hid (Blk v35 (w.heap.size + 1 + 1) #[.int .i64 0, .int .i64 0, .int .i64 0, .string ⟨#[]⟩, .slice none 0 0, .slice none 0 0] 25) := R_v30.out.below b_v35 R_v30.out.lt
    have K6_v35 : Hid (Blk v35 v0w.heap.size #[.int .u64 0, .int .u64 0, .bool false] 55) := K6_v30.out.below b_v35 K6_v30.out.lt
    have K7_v35 : Hid (Blk v35 v30.heap.size #[.int .u64 0, .int .u64 0, .bool false] 55) := by show Blk _ _ _ _; rw [← h_v35]; exact Blk.new _ _ _
    have hne : v0w.heap.size ≠ v30.heap.size := by have := K6_v30.out.lt; omega
    have hg7 : w.heap.size + 1 + 1 < v30.heap.size := R_v30.out.lt
    have y1_v35 : v35.cell? ⟨w.heap.size, 1, none⟩ = some (.int .i64 n.int) := (ST_v35.out.six 0 rfl).2.1
    have y3_v35 : v35.cell? ⟨w.heap.size + 1, 1, none⟩ = some (.int .i64 m.int) := (ST_v35.out.six 1 rfl).2.1
    refine hK.out _ _ (⟨y1_v35, y3_v35⟩) (fun hHeld => ?_)
    clear hK K
    try simp only [Act.put, List.setIfInBounds_toArray, List.set_cons_zero, List.set_cons_succ]
    refine wpAnyH_ready (rs := [5]) (by kernel_rfl) (by simp) ?_
    refine AllReadyH.cons (o := { dst := some 21, op := Go.Op.call { callee := Go.Callee.value (Go.Operand.func 31), args := #[Go.Operand.tmp 20, Go.Operand.const (Go.Value.int Go.IntKind.i64 0)], argTypes := #[3, 3] }, type := 55, pos := "decimal.go:127", after := #[{ on := 4, ground := Go.Ground.data }, { on := 2, ground := Go.Ground.chain }], guard := none }) rfl (fun K hK => ?_) AllReadyH.nil
    go_simp
    refine (HO2.out _).mono ?_
    rintro e v36 ⟨rfl, b_v36⟩
    have ST_v36 : Hid (St w [⟨w.heap.size, n, .nil, An, cn, Ak, ck⟩, ⟨w.heap.size + 1, m, .nil, Bn, dn, Bk, dk⟩] v36) := ST_v35.out.step b_v36
    have R_v36 : Hid (Blk v36 (w.heap.size + 1 + 1) #[.int .i64 0, .int .i64 0, .int .i64 0, .string ⟨#[]⟩, .slice none 0 0, .slice none 0 0] 25) := R_v35.out.below b_v36 R_v35.out.lt
    have K6_v36 : Hid (Blk v36 v0w.heap.size #[.int .u64 0, .int .u64 0, .bool false] 55) := K6_v35.out.below b_v36 K6_v35.out.lt
    have K7_v36 : Hid (Blk v36 v30.heap.size #[.int .u64 0, .int .u64 0, .bool false] 55) := K7_v35.out.below b_v36 K7_v35.out.lt
    have y1_v36 : v36.cell? ⟨w.heap.size, 1, none⟩ = some (.int .i64 n.int) := (ST_v36.out.six 0 rfl).2.1
    have y3_v36 : v36.cell? ⟨w.heap.size + 1, 1, none⟩ = some (.int .i64 m.int) := (ST_v36.out.six 1 rfl).2.1
    go_wp2_with fail
    refine hK.out _ _ (⟨y1_v36, y3_v36⟩) (fun hHeld => ?_)
    clear hK K
    try simp only [Act.put, List.setIfInBounds_toArray, List.set_cons_zero, List.set_cons_succ]
    refine wpAnyH_ready (rs := [8]) (by kernel_rfl) (by simp) ?_
    refine AllReadyH.cons (o := { dst := none, op := Go.Op.store 55 (Go.Operand.tmp 6) (Go.Operand.tmp 18), type := 0, pos := "decimal.go:127", after := #[{ on := 6, ground := Go.Ground.data }, { on := 2, ground := Go.Ground.data }, { on := 5, ground := Go.Ground.chain }, { on := 0, ground := Go.Ground.phase }, { on := 1, ground := Go.Ground.phase }, { on := 2, ground := Go.Ground.phase }, { on := 3, ground := Go.Ground.textOnly Go.Departure.lateStores }, { on := 4, ground := Go.Ground.textOnly Go.Departure.lateStores }, { on := 5, ground := Go.Ground.textOnly Go.Departure.lateStoresUnsure }, { on := 6, ground := Go.Ground.phase }, { on := 7, ground := Go.Ground.phase }], guard := none }) rfl (fun K hK => ?_) AllReadyH.nil
    have s0 : v36.cell? ⟨v0w.heap.size, 0, none⟩ = some (.int .u64 0) := K6_v36.out.cell 0
    have s_0 := K6_v36.out.free 0
    have s1 : v36.cell? ⟨v0w.heap.size, 1, none⟩ = some (.int .u64 0) := K6_v36.out.cell 1
    have s_1 := K6_v36.out.free 1
    have s2 : v36.cell? ⟨v0w.heap.size, 2, none⟩ = some (.bool false) := K6_v36.out.cell 2
    have s_2 := K6_v36.out.free 2
    go_simp
    obtain ⟨v37, h_v37⟩ : ∃ v, (((v36.setCell ⟨v0w.heap.size, 0, none⟩ (.int .u64 0)).setCell ⟨v0w.heap.size, 1, none⟩ (.int .u64 (a : Int))).setCell ⟨v0w.heap.size, 2, none⟩ (.bool b1)) = v := ⟨_, rfl⟩
    rw [h_v37]
    clear s0 s1 s2 s_0 s_1 s_2
    have X1_v37 : Hid (Blk v37 w.heap.size (ncells n An cn Ak F.nil.len ck).toArray 25) := by show Blk _ _ _ _; rw [← h_v37]; exact ((((show Blk v36 w.heap.size (ncells n An cn Ak F.nil.len ck).toArray 25 from (ST_v36.out.box 0 rfl).1).set_other 0 _ (by omega)).set_other 1 _ (by omega)).set_other 2 _ (by omega))
    have X2_v37 : Hid (Blk v37 (w.heap.size + 1) (ncells m Bn dn Bk F.nil.len dk).toArray 25) := by show Blk _ _ _ _; rw [← h_v37]; exact ((((show Blk v36 (w.heap.size + 1) (ncells m Bn dn Bk F.nil.len dk).toArray 25 from (ST_v36.out.box 1 rfl).1).set_other 0 _ (by omega)).set_other 1 _ (by omega)).set_other 2 _ (by omega))
    have R_v37 : Hid (Blk v37 (w.heap.size + 1 + 1) #[.int .i64 0, .int .i64 0, .int .i64 0, .string ⟨#[]⟩, .slice none 0 0, .slice none 0 0] 25) := by show Blk _ _ _ _; rw [← h_v37]; exact (((R_v36.out.set_other 0 _ (by omega)).set_other 1 _ (by omega)).set_other 2 _ (by omega))
    have BW_v37 : Hid (Below w.heap.size w v37) := by show Below _ _ _; rw [← h_v37]; exact ((ST_v36.out.1.setCell (by show _ ≤ v0w.heap.size; omega) _).setCell (by show _ ≤ v0w.heap.size; omega) _).setCell (by show _ ≤ v0w.heap.size; omega) _
    have K6_v37 : Hid (Blk v37 v0w.heap.size #[.int .u64 0, .int .u64 (a : Int), .bool b1] 55) := by show Blk _ _ _ _; rw [← h_v37]; exact Blk.tri_set K6_v36.out
    have K7_v37 : Hid (Blk v37 v30.heap.size #[.int .u64 0, .int .u64 0, .bool false] 55) := by show Blk _ _ _ _; rw [← h_v37]; exact (((K7_v36.out.set_other 0 _ (by omega)).set_other 1 _ (by omega)).set_other 2 _ (by omega))
    have y1_v37 : v37.cell? ⟨w.heap.size, 1, none⟩ = some (.int .i64 n.int) := X1_v37.out.cell 1
    have y3_v37 : v37.cell? ⟨w.heap.size + 1, 1, none⟩ = some (.int .i64 m.int) := X2_v37.out.cell 1
    refine hK.out _ _ (⟨y1_v37, y3_v37⟩) (fun hHeld => ?_)
    clear hK K
    try simp only [Act.put, List.setIfInBounds_toArray, List.set_cons_zero, List.set_cons_succ]
    refine wpAnyH_ready (rs := [9]) (by kernel_rfl) (by simp) ?_
    refine AllReadyH.cons (o := { dst := none, op := Go.Op.store 55 (Go.Operand.tmp 7) (Go.Operand.tmp 21), type := 0, pos := "decimal.go:127", after := #[{ on := 7, ground := Go.Ground.data }, { on := 5, ground := Go.Ground.data }, { on := 8, ground := Go.Ground.chain }, { on := 0, ground := Go.Ground.phase }, { on := 1, ground := Go.Ground.phase }, { on := 2, ground := Go.Ground.phase }, { on := 3, ground := Go.Ground.phase }, { on := 4, ground := Go.Ground.phase }, { on := 5, ground := Go.Ground.phase }, { on := 6, ground := Go.Ground.phase }, { on := 7, ground := Go.Ground.phase }, { on := 8, ground := Go.Ground.phase }], guard := none }) rfl (fun K hK => ?_) AllReadyH.nil
    have s0 : v37.cell? ⟨v30.heap.size, 0, none⟩ = some (.int .u64 0) := K7_v37.out.cell 0
    have s_0 := K7_v37.out.free 0
    have s1 : v37.cell? ⟨v30.heap.size, 1, none⟩ = some (.int .u64 0) := K7_v37.out.cell 1
    have s_1 := K7_v37.out.free 1
    have s2 : v37.cell? ⟨v30.heap.size, 2, none⟩ = some (.bool false) := K7_v37.out.cell 2
    have s_2 := K7_v37.out.free 2
    go_simp
    obtain ⟨v38, h_v38⟩ : ∃ v, (((v37.setCell ⟨v30.heap.size, 0, none⟩ (.int .u64 0)).setCell ⟨v30.heap.size, 1, none⟩ (.int .u64 (b : Int))).setCell ⟨v30.heap.size, 2, none⟩ (.bool b2)) = v := ⟨_, rfl⟩
    rw [h_v38]
    clear s0 s1 s2 s_0 s_1 s_2
    have X1_v38 : Hid (Blk v38 w.heap.size (ncells n An cn Ak F.nil.len ck).toArray 25) := by show Blk _ _ _ _; rw [← h_v38]; exact ((((show Blk v37 w.heap.size (ncells n An cn Ak F.nil.len ck).toArray 25 from X1_v37.out).set_other 0 _ (by omega)).set_other 1 _ (by omega)).set_other 2 _ (by omega))
    have X2_v38 : Hid (Blk v38 (w.heap.size + 1) (ncells m Bn dn Bk F.nil.len dk).toArray 25) := by show Blk _ _ _ _; rw [← h_v38]; exact ((((show Blk v37 (w.heap.size + 1) (ncells m Bn dn Bk F.nil.len dk).toArray 25 from X2_v37.out).set_other 0 _ (by omega)).set_other 1 _ (by omega)).set_other 2 _ (by omega))
    have R_v38 : Hid (Blk v38 (w.heap.size + 1 + 1) #[.int .i64 0, .int .i64 0, .int .i64 0, .string ⟨#[]⟩, .slice none 0 0, .slice none 0 0] 25) := by show Blk _ _ _ _; rw [← h_v38]; exact (((R_v37.out.set_other 0 _ (by omega)).set_other 1 _ (by omega)).set_other 2 _ (by omega))
    have BW_v38 : Hid (Below w.heap.size w v38) := by show Below _ _ _; rw [← h_v38]; exact ((BW_v37.out.setCell (by show _ ≤ v30.heap.size; omega) _).setCell (by show _ ≤ v30.heap.size; omega) _).setCell (by show _ ≤ v30.heap.size; omega) _
    have K7_v38 : Hid (Blk v38 v30.heap.size #[.int .u64 0, .int .u64 (b : Int), .bool b2] 55) := by show Blk _ _ _ _; rw [← h_v38]; exact Blk.tri_set K7_v37.out
    have K6_v38 : Hid (Blk v38 v0w.heap.size #[.int .u64 0, .int .u64 (a : Int), .bool b1] 55) := by show Blk _ _ _ _; rw [← h_v38]; exact (((K6_v37.out.set_other 0 _ (by omega)).set_other 1 _ (by omega)).set_other 2 _ (by omega))
    have y1_v38 : v38.cell? ⟨w.heap.size, 1, none⟩ = some (.int .i64 n.int) := X1_v38.out.cell 1
    have y3_v38 : v38.cell? ⟨w.heap.size + 1, 1, none⟩ = some (.int .i64 m.int) := X2_v38.out.cell 1
    have FIN : ∃ (wz : World) (g6 g7 : Nat), wz = v38 ∧ g6 = v0w.heap.size ∧ g7 = v30.heap.size := ⟨_, _, _, rfl, rfl, rfl⟩
    have FINH : Hid (Blk v38 w.heap.size (ncells n An cn Ak F.nil.len ck).toArray 25 ∧ Blk v38 (w.heap.size + 1) (ncells m Bn dn Bk F.nil.len dk).toArray 25 ∧ Blk v38 (w.heap.size + 1 + 1) #[.int .i64 0, .int .i64 0, .int .i64 0, .string ⟨#[]⟩, .slice none 0 0, .slice none 0 0] 25 ∧ Below w.heap.size w v38 ∧ Blk v38 v0w.heap.size #[.int .u64 0, .int .u64 (a : Int), .bool b1] 55 ∧ Blk v38 v30.heap.size #[.int .u64 0, .int .u64 (b : Int), .bool b2] 55) := ⟨X1_v38.out, X2_v38.out, R_v38.out, BW_v38.out, K6_v38.out, K7_v38.out⟩
    have e1 : v38.cell? ⟨v0w.heap.size, 1, none⟩ = some (.int .u64 (a : Int)) := K6_v38.out.cell 1
    have e2 : v38.cell? ⟨v0w.heap.size, 2, none⟩ = some (.bool b1) := K6_v38.out.cell 2
    have e3 : v38.cell? ⟨v30.heap.size, 1, none⟩ = some (.int .u64 (b : Int)) := K7_v38.out.cell 1
    have e4 : v38.cell? ⟨v30.heap.size, 2, none⟩ = some (.bool b2) := K7_v38.out.cell 2
    have e5 : v38.cell? ⟨w.heap.size, 2, none⟩ = some (.int .i64 n.scale) := X1_v38.out.cell 2
    have e6 : v38.cell? ⟨w.heap.size + 1, 2, none⟩ = some (.int .i64 m.scale) := X2_v38.out.cell 2
    refine hK.out _ _ (⟨y1_v38, y3_v38⟩) (fun hHeld => ?_)
    clear hK K
    try simp only [Act.put, List.setIfInBounds_toArray, List.set_cons_zero, List.set_cons_succ]
    refine wpAnyH_done (by kernel_rfl) ?_ _
    rotate_left 1
    refine AllReadyH.cons (o := { dst := some 7, op := Go.Op.alloc 55, type := 0, pos := "decimal.go:127", after := #[], guard := none }) rfl (fun K hK => ?_) AllReadyH.nil
    go_simp
    obtain ⟨v39, h_v39⟩ : ∃ v, v29.alloc (.cells #[.int .u64 0, .int .u64 0, .bool false] 55) = v := ⟨_, rfl⟩
    rw [h_v39]
    have b_v39 : Below v29.heap.size v29 v39 := by rw [← h_v39]; exact below_ra _ _
    have ST_v39 : Hid (St w [⟨w.heap.size, n, .nil, An, cn, Ak, ck⟩, ⟨w.heap.size + 1, m, .nil, Bn, dn, Bk, dk⟩] v39) := ST_v29.out.step b_v39
    have R_v39 : Hid (Blk v39 (w.heap.size + 1 + 1) #[.int .i64 0, .int .i64 0, .int .i64 0, .string ⟨#[]⟩, .slice none 0 0, .slice none 0 0] 25) := R_v29.out.below b_v39 R_v29.out.lt
    have K6_v39 : Hid (Blk v39 v0w.heap.size #[.int .u64 0, .int .u64 0, .bool false] 55) := K6_v29.out.below b_v39 K6_v29.out.lt
    have K7_v39 : Hid (Blk v39 v29.heap.size #[.int .u64 0, .int .u64 0, .bool false] 55) := by show Blk _ _ _ _; rw [← h_v39]; exact Blk.new _ _ _
    have hne : v0w.heap.size ≠ v29.heap.size := by have := K6_v29.out.lt; omega
    have hg7 : w.heap.size + 1 + 1 < v29.heap.size := R_v29.out.lt
    have y1_v39 : v39.cell? ⟨w.heap.size, 1, none⟩ = some (.int .i64 n.int) := (ST_v39.out.six 0 rfl).2.1
    have y3_v39 : v39.cell? ⟨w.heap.size + 1, 1, none⟩ = some (.int .i64 m.int) := (ST_v39.out.six 1 rfl).2.1
    refine hK.out _ _ (⟨y1_v39, y3_v39⟩) (fun hHeld => ?_)
    clear hK K
    try simp only [Act.put, List.setIfInBounds_toArray, List.set_cons_zero, List.set_cons_succ]
    refine wpAnyH_ready (rs := [2]) (by kernel_rfl) (by simp) ?_
    refine AllReadyH.cons (o := { dst := some 18, op := Go.Op.call { callee := Go.Callee.value (Go.Operand.func 31), args := #[Go.Operand.tmp 17, Go.Operand.const (Go.Value.int Go.IntKind.i64 0)], argTypes := #[3, 3] }, type := 55, pos := "decimal.go:127", after := #[{ on := 1, ground := Go.Ground.data }], guard := none }) rfl (fun K hK => ?_) AllReadyH.nil
    go_simp
    refine (HO1.out _).mono ?_
    rintro e v40 ⟨rfl, b_v40⟩
    have ST_v40 : Hid (St w [⟨w.heap.size, n, .nil, An, cn, Ak, ck⟩, ⟨w.heap.size + 1, m, .nil, Bn, dn, Bk, dk⟩] v40) := ST_v39.out.step b_v40
    have R_v40 : Hid (Blk v40 (w.heap.size + 1 + 1) #[.int .i64 0, .int .i64 0, .int .i64 0, .string ⟨#[]⟩, .slice none 0 0, .slice none 0 0] 25) := R_v39.out.below b_v40 R_v39.out.lt
    have K6_v40 : Hid (Blk v40 v0w.heap.size #[.int .u64 0, .int .u64 0, .bool false] 55) := K6_v39.out.below b_v40 K6_v39.out.lt
    have K7_v40 : Hid (Blk v40 v29.heap.size #[.int .u64 0, .int .u64 0, .bool false] 55) := K7_v39.out.below b_v40 K7_v39.out.lt
    have y1_v40 : v40.cell? ⟨w.heap.size, 1, none⟩ = some (.int .i64 n.int) := (ST_v40.out.six 0 rfl).2.1
    have y3_v40 : v40.cell? ⟨w.heap.size + 1, 1, none⟩ = some (.int .i64 m.int) := (ST_v40.out.six 1 rfl).2.1
    go_wp2_with fail
    refine hK.out _ _ (⟨y1_v40, y3_v40⟩) (fun hHeld => ?_)
    clear hK K
    try simp only [Act.put, List.setIfInBounds_toArray, List.set_cons_zero, List.set_cons_succ]
    refine wpAnyH_ready (rs := [5]) (by kernel_rfl) (by simp) ?_
    refine AllReadyH.cons (o := { dst := some 21, op := Go.Op.call { callee := Go.Callee.value (Go.Operand.func 31), args := #[Go.Operand.tmp 20, Go.Operand.const (Go.Value.int Go.IntKind.i64 0)], argTypes := #[3, 3] }, type := 55, pos := "decimal.go:127", after := #[{ on := 4, ground := Go.Ground.data }, { on := 2, ground := Go.Ground.chain }], guard := none }) rfl (fun K hK => ?_) AllReadyH.nil
    go_simp
    refine (HO2.out _).mono ?_
    rintro e v41 ⟨rfl, b_v41⟩
    have ST_v41 : Hid (St w [⟨w.heap.size, n, .nil, An, cn, Ak, ck⟩, ⟨w.heap.size + 1, m, .nil, Bn, dn, Bk, dk⟩] v41) := ST_v40.out.step b_v41
    have R_v41 : Hid (Blk v41 (w.heap.size + 1 + 1) #[.int .i64 0, .int .i64 0, .int .i64 0, .string ⟨#[]⟩, .slice none 0 0, .slice none 0 0] 25) := R_v40.out.below b_v41 R_v40.out.lt
    have K6_v41 : Hid (Blk v41 v0w.heap.size #[.int .u64 0, .int .u64 0, .bool false] 55) := K6_v40.out.below b_v41 K6_v40.out.lt
    have K7_v41 : Hid (Blk v41 v29.heap.size #[.int .u64 0, .int .u64 0, .bool false] 55) := K7_v40.out.below b_v41 K7_v40.out.lt
    have y1_v41 : v41.cell? ⟨w.heap.size, 1, none⟩ = some (.int .i64 n.int) := (ST_v41.out.six 0 rfl).2.1
    have y3_v41 : v41.cell? ⟨w.heap.size + 1, 1, none⟩ = some (.int .i64 m.int) := (ST_v41.out.six 1 rfl).2.1
    go_wp2_with fail
    refine hK.out _ _ (⟨y1_v41, y3_v41⟩) (fun hHeld => ?_)
    clear hK K
    try simp only [Act.put, List.setIfInBounds_toArray, List.set_cons_zero, List.set_cons_succ]
    refine wpAnyH_ready (rs := [8]) (by kernel_rfl) (by simp) ?_
    refine AllReadyH.cons (o := { dst := none, op := Go.Op.store 55 (Go.Operand.tmp 6) (Go.Operand.tmp 18), type := 0, pos := "decimal.go:127", after := #[{ on := 6, ground := Go.Ground.data }, { on := 2, ground := Go.Ground.data }, { on := 5, ground := Go.Ground.chain }, { on := 0, ground := Go.Ground.phase }, { on := 1, ground := Go.Ground.phase }, { on := 2, ground := Go.Ground.phase }, { on := 3, ground := Go.Ground.textOnly Go.Departure.lateStores }, { on := 4, ground := Go.Ground.textOnly Go.Departure.lateStores }, { on := 5, ground := Go.Ground.textOnly Go.Departure.lateStoresUnsure }, { on := 6, ground := Go.Ground.phase }, { on := 7, ground := Go.Ground.phase }], guard := none }) rfl (fun K hK => ?_) AllReadyH.nil
    have s0 : v41.cell? ⟨v0w.heap.size, 0, none⟩ = some (.int .u64 0) := K6_v41.out.cell 0
    have s_0 := K6_v41.out.free 0
    have s1 : v41.cell? ⟨v0w.heap.size, 1, none⟩ = some (.int .u64 0) := K6_v41.out.cell 1
    have s_1 := K6_v41.out.free 1
    have s2 : v41.cell? ⟨v0w.heap.size, 2, none⟩ = some (.bool false) := K6_v41.out.cell 2
    have s_2 := K6_v41.out.free 2
    go_simp
    obtain ⟨v42, h_v42⟩ : ∃ v, (((v41.setCell ⟨v0w.heap.size, 0, none⟩ (.int .u64 0)).setCell ⟨v0w.heap.size, 1, none⟩ (.int .u64 (a : Int))).setCell ⟨v0w.heap.size, 2, none⟩ (.bool b1)) = v := ⟨_, rfl⟩
    rw [h_v42]
    clear s0 s1 s2 s_0 s_1 s_2
    have X1_v42 : Hid (Blk v42 w.heap.size (ncells n An cn Ak F.nil.len ck).toArray 25) := by show Blk _ _ _ _; rw [← h_v42]; exact ((((show Blk v41 w.heap.size (ncells n An cn Ak F.nil.len ck).toArray 25 from (ST_v41.out.box 0 rfl).1).set_other 0 _ (by omega)).set_other 1 _ (by omega)).set_other 2 _ (by omega))
    have X2_v42 : Hid (Blk v42 (w.heap.size + 1) (ncells m Bn dn Bk F.nil.len dk).toArray 25) := by show Blk _ _ _ _; rw [← h_v42]; exact ((((show Blk v41 (w.heap.size + 1) (ncells m Bn dn Bk F.nil.len dk).toArray 25 from (ST_v41.out.box 1 rfl).1).set_other 0 _ (by omega)).set_other 1 _ (by omega)).set_other 2 _ (by omega))
    have R_v42 : Hid (Blk v42 (w.heap.size + 1 + 1) #[.int .i64 0, .int .i64 0, .int .i64 0, .string ⟨#[]⟩, .slice none 0 0, .slice none 0 0] 25) := by show Blk _ _ _ _; rw [← h_v42]; exact (((R_v41.out.set_other 0 _ (by omega)).set_other 1 _ (by omega)).set_other 2 _ (by omega))
    have BW_v42 : Hid (Below w.heap.size w v42) := by show Below _ _ _; rw [← h_v42]; exact ((ST_v41.out.1.setCell (by show _ ≤ v0w.heap.size; omega) _).setCell (by show _ ≤ v0w.heap.size; omega) _).setCell (by show _ ≤ v0w.heap.size; omega) _
    have K6_v42 : Hid (Blk v42 v0w.heap.size #[.int .u64 0, .int .u64 (a : Int), .bool b1] 55) := by show Blk _ _ _ _; rw [← h_v42]; exact Blk.tri_set K6_v41.out
    have K7_v42 : Hid (Blk v42 v29.heap.size #[.int .u64 0, .int .u64 0, .bool false] 55) := by show Blk _ _ _ _; rw [← h_v42]; exact (((K7_v41.out.set_other 0 _ (by omega)).set_other 1 _ (by omega)).set_other 2 _ (by omega))
    have y1_v42 : v42.cell? ⟨w.heap.size, 1, none⟩ = some (.int .i64 n.int) := X1_v42.out.cell 1
    have y3_v42 : v42.cell? ⟨w.heap.size + 1, 1, none⟩ = some (.int .i64 m.int) := X2_v42.out.cell 1
    refine hK.out _ _ (⟨y1_v42, y3_v42⟩) (fun hHeld => ?_)
    clear hK K
    try simp only [Act.put, List.setIfInBounds_toArray, List.set_cons_zero, List.set_cons_succ]
    refine wpAnyH_ready (rs := [9]) (by kernel_rfl) (by simp) ?_
    refine AllReadyH.cons (o := { dst := none, op := Go.Op.store 55 (Go.Operand.tmp 7) (Go.Operand.tmp 21), type := 0, pos := "decimal.go:127", after := #[{ on := 7, ground := Go.Ground.data }, { on := 5, ground := Go.Ground.data }, { on := 8, ground := Go.Ground.chain }, { on := 0, ground := Go.Ground.phase }, { on := 1, ground := Go.Ground.phase }, { on := 2, ground := Go.Ground.phase }, { on := 3, ground := Go.Ground.phase }, { on := 4, ground := Go.Ground.phase }, { on := 5, ground := Go.Ground.phase }, { on := 6, ground := Go.Ground.phase }, { on := 7, ground := Go.Ground.phase }, { on := 8, ground := Go.Ground.phase }], guard := none }) rfl (fun K hK => ?_) AllReadyH.nil
    have s0 : v42.cell? ⟨v29.heap.size, 0, none⟩ = some (.int .u64 0) := K7_v42.out.cell 0
    have s_0 := K7_v42.out.free 0
    have s1 : v42.cell? ⟨v29.heap.size, 1, none⟩ = some (.int .u64 0) := K7_v42.out.cell 1
    have s_1 := K7_v42.out.free 1
    have s2 : v42.cell? ⟨v29.heap.size, 2, none⟩ = some (.bool false) := K7_v42.out.cell 2
    have s_2 := K7_v42.out.free 2
    go_simp
    obtain ⟨v43, h_v43⟩ : ∃ v, (((v42.setCell ⟨v29.heap.size, 0, none⟩ (.int .u64 0)).setCell ⟨v29.heap.size, 1, none⟩ (.int .u64 (b : Int))).setCell ⟨v29.heap.size, 2, none⟩ (.bool b2)) = v := ⟨_, rfl⟩
    rw [h_v43]
    clear s0 s1 s2 s_0 s_1 s_2
    have X1_v43 : Hid (Blk v43 w.heap.size (ncells n An cn Ak F.nil.len ck).toArray 25) := by show Blk _ _ _ _; rw [← h_v43]; exact ((((show Blk v42 w.heap.size (ncells n An cn Ak F.nil.len ck).toArray 25 from X1_v42.out).set_other 0 _ (by omega)).set_other 1 _ (by omega)).set_other 2 _ (by omega))
    have X2_v43 : Hid (Blk v43 (w.heap.size + 1) (ncells m Bn dn Bk F.nil.len dk).toArray 25) := by show Blk _ _ _ _; rw [← h_v43]; exact ((((show Blk v42 (w.heap.size + 1) (ncells m Bn dn Bk F.nil.len dk).toArray 25 from X2_v42.out).set_other 0 _ (by omega)).set_other 1 _ (by omega)).set_other 2 _ (by omega))
    have R_v43 : Hid (Blk v43 (w.heap.size + 1 + 1) #[.int .i64 0, .int .i64 0, .int .i64 0, .string ⟨#[]⟩, .slice none 0 0, .slice none 0 0] 25) := by show Blk _ _ _ _; rw [← h_v43]; exact (((R_v42.out.set_other 0 _ (by omega)).set_other 1 _ (by omega)).set_other 2 _ (by omega))
    have BW_v43 : Hid (Below w.heap.size w v43) := by show Below _ _ _; rw [← h_v43]; exact ((BW_v42.out.setCell (by show _ ≤ v29.heap.size; omega) _).setCell (by show _ ≤ v29.heap.size; omega) _).setCell (by show _ ≤ v29.heap.size; omega) _
    have K7_v43 : Hid (Blk v43 v29.heap.size #[.int .u64 0, .int .u64 (b : Int), .bool b2] 55) := by show Blk _ _ _ _; rw [← h_v43]; exact Blk.tri_set K7_v42.out
    have K6_v43 : Hid (Blk v43 v0w.heap.size #[.int .u64 0, .int .u64 (a : Int), .bool b1] 55) := by show Blk _ _ _ _; rw [← h_v43]; exact (((K6_v42.out.set_other 0 _ (by omega)).set_other 1 _ (by omega)).set_other 2 _ (by omega))
    have y1_v43 : v43.cell? ⟨w.heap.size, 1, none⟩ = some (.int .i64 n.int) := X1_v43.out.cell 1
    have y3_v43 : v43.cell? ⟨w.heap.size + 1, 1, none⟩ = some (.int .i64 m.int) := X2_v43.out.cell 1
    have FIN : ∃ (wz : World) (g6 g7 : Nat), wz = v43 ∧ g6 = v0w.heap.size ∧ g7 = v29.heap.size := ⟨_, _, _, rfl, rfl, rfl⟩
    have FINH : Hid (Blk v43 w.heap.size (ncells n An cn Ak F.nil.len ck).toArray 25 ∧ Blk v43 (w.heap.size + 1) (ncells m Bn dn Bk F.nil.len dk).toArray 25 ∧ Blk v43 (w.heap.size + 1 + 1) #[.int .i64 0, .int .i64 0, .int .i64 0, .string ⟨#[]⟩, .slice none 0 0, .slice none 0 0] 25 ∧ Below w.heap.size w v43 ∧ Blk v43 v0w.heap.size #[.int .u64 0, .int .u64 (a : Int), .bool b1] 55 ∧ Blk v43 v29.heap.size #[.int .u64 0, .int .u64 (b : Int), .bool b2] 55) := ⟨X1_v43.out, X2_v43.out, R_v43.out, BW_v43.out, K6_v43.out, K7_v43.out⟩
    have e1 : v43.cell? ⟨v0w.heap.size, 1, none⟩ = some (.int .u64 (a : Int)) := K6_v43.out.cell 1
    have e2 : v43.cell? ⟨v0w.heap.size, 2, none⟩ = some (.bool b1) := K6_v43.out.cell 2
    have e3 : v43.cell? ⟨v29.heap.size, 1, none⟩ = some (.int .u64 (b : Int)) := K7_v43.out.cell 1
    have e4 : v43.cell? ⟨v29.heap.size, 2, none⟩ = some (.bool b2) := K7_v43.out.cell 2
    have e5 : v43.cell? ⟨w.heap.size, 2, none⟩ = some (.int .i64 n.scale) := X1_v43.out.cell 2
    have e6 : v43.cell? ⟨w.heap.size + 1, 2, none⟩ = some (.int .i64 m.scale) := X2_v43.out.cell 2
    refine hK.out _ _ (⟨y1_v43, y3_v43⟩) (fun hHeld => ?_)
    clear hK K
    try simp only [Act.put, List.setIfInBounds_toArray, List.set_cons_zero, List.set_cons_succ]
    refine wpAnyH_done (by kernel_rfl) ?_ _
    rotate_left 1
    refine AllReadyH.cons (o := { dst := some 7, op := Go.Op.alloc 55, type := 0, pos := "decimal.go:127", after := #[], guard := none }) rfl (fun K hK => ?_) AllReadyH.nil
    go_simp
    obtain ⟨v44, h_v44⟩ : ∃ v, v0w.alloc (.cells #[.int .u64 0, .int .u64 0, .bool false] 55) = v := ⟨_, rfl⟩
    rw [h_v44]
    have b_v44 : Below v0w.heap.size v0w v44 := by rw [← h_v44]; exact below_ra _ _
    have ST_v44 : Hid (St w [⟨w.heap.size, n, .nil, An, cn, Ak, ck⟩, ⟨w.heap.size + 1, m, .nil, Bn, dn, Bk, dk⟩] v44) := ST_v0.out.step b_v44
    have R_v44 : Hid (Blk v44 (w.heap.size + 1 + 1) #[.int .i64 0, .int .i64 0, .int .i64 0, .string ⟨#[]⟩, .slice none 0 0, .slice none 0 0] 25) := R_v0.out.below b_v44 R_v0.out.lt
    have K7_v44 : Hid (Blk v44 v0w.heap.size #[.int .u64 0, .int .u64 0, .bool false] 55) := by show Blk _ _ _ _; rw [← h_v44]; exact Blk.new _ _ _
    have hg7 : w.heap.size + 1 + 1 < v0w.heap.size := R_v0.out.lt
    have y1_v44 : v44.cell? ⟨w.heap.size, 1, none⟩ = some (.int .i64 n.int) := (ST_v44.out.six 0 rfl).2.1
    have y3_v44 : v44.cell? ⟨w.heap.size + 1, 1, none⟩ = some (.int .i64 m.int) := (ST_v44.out.six 1 rfl).2.1
    refine hK.out _ _ (⟨y1_v44, y3_v44⟩) (fun hHeld => ?_)
    clear hK K
    try simp only [Act.put, List.setIfInBounds_toArray, List.set_cons_zero, List.set_cons_succ]
    refine wpAnyH_ready (rs := [2, 6]) (by kernel_rfl) (by simp) ?_
    refine AllReadyH.cons (o := { dst := some 18, op := Go.Op.call { callee := Go.Callee.value (Go.Operand.func 31), args := #[Go.Operand.tmp 17, Go.Operand.const (Go.Value.int Go.IntKind.i64 0)], argTypes := #[3, 3] }, type := 55, pos := "decimal.go:127", after := #[{ on := 1, ground := Go.Ground.data }], guard := none }) rfl (fun K hK => ?_) ?_
    go_simp
    refine (HO1.out _).mono ?_
    rintro e v45 ⟨rfl, b_v45⟩
    have ST_v45 : Hid (St w [⟨w.heap.size, n, .nil, An, cn, Ak, ck⟩, ⟨w.heap.size + 1, m, .nil, Bn, dn, Bk, dk⟩] v45) := ST_v44.out.step b_v45
    have R_v45 : Hid (Blk v45 (w.heap.size + 1 + 1) #[.int .i64 0, .int .i64 0, .int .i64 0, .string ⟨#[]⟩, .slice none 0 0, .slice none 0 0] 25) := R_v44.out.below b_v45 R_v44.out.lt
    have K7_v45 : Hid (Blk v45 v0w.heap.size #[.int .u64 0, .int .u64 0, .bool false] 55) := K7_v44.out.below b_v45 K7_v44.out.lt
    have y1_v45 : v45.cell? ⟨w.heap.size, 1, none⟩ = some (.int .i64 n.int) := (ST_v45.out.six 0 rfl).2.1
    have y3_v45 : v45.cell? ⟨w.heap.size + 1, 1, none⟩ = some (.int .i64 m.int) := (ST_v45.out.six 1 rfl).2.1
    go_wp2_with fail
    refine hK.out _ _ (⟨y1_v45, y3_v45⟩) (fun hHeld => ?_)
    clear hK K
    try simp only [Act.put, List.setIfInBounds_toArray, List.set_cons_zero, List.set_cons_succ]
    refine wpAnyH_ready (rs := [5, 6]) (by kernel_rfl) (by simp) ?_
    refine AllReadyH.cons (o := { dst := some 21, op := Go.Op.call { callee := Go.Callee.value (Go.Operand.func 31), args := #[Go.Operand.tmp 20, Go.Operand.const (Go.Value.int Go.IntKind.i64 0)], argTypes := #[3, 3] }, type := 55, pos := "decimal.go:127", after := #[{ on := 4, ground := Go.Ground.data }, { on := 2, ground := Go.Ground.chain }], guard := none }) rfl (fun K hK => ?_) ?_
    go_simp
    refine (HO2.out _).mono ?_
    rintro e v46 ⟨rfl, b_v46⟩
    have ST_v46 : Hid (St w [⟨w.heap.size, n, .nil, An, cn, Ak, ck⟩, ⟨w.heap.size + 1, m, .nil, Bn, dn, Bk, dk⟩] v46) := ST_v45.out.step b_v46
    have R_v46 : Hid (Blk v46 (w.heap.size + 1 + 1) #[.int .i64 0, .int .i64 0, .int .i64 0, .string ⟨#[]⟩, .slice none 0 0, .slice none 0 0] 25) := R_v45.out.below b_v46 R_v45.out.lt
    have K7_v46 : Hid (Blk v46 v0w.heap.size #[.int .u64 0, .int .u64 0, .bool false] 55) := K7_v45.out.below b_v46 K7_v45.out.lt
    have y1_v46 : v46.cell? ⟨w.heap.size, 1, none⟩ = some (.int .i64 n.int) := (ST_v46.out.six 0 rfl).2.1
    have y3_v46 : v46.cell? ⟨w.heap.size + 1, 1, none⟩ = some (.int .i64 m.int) := (ST_v46.out.six 1 rfl).2.1
    go_wp2_with fail
    refine hK.out _ _ (⟨y1_v46, y3_v46⟩) (fun hHeld => ?_)
    clear hK K
    try simp only [Act.put, List.setIfInBounds_toArray, List.set_cons_zero, List.set_cons_succ]
    refine wpAnyH_ready (rs := [6]) (by kernel_rfl) (by simp) ?_
    refine AllReadyH.cons (o := { dst := some 6, op := Go.Op.alloc 55, type := 0, pos := "decimal.go:127", after := #[], guard := none }) rfl (fun K hK => ?_) AllReadyH.nil
    go_simp
    obtain ⟨v47, h_v47⟩ : ∃ v, v46.alloc (.cells #[.int .u64 0, .int .u64 0, .bool false] 55) = v := ⟨_, rfl⟩
    rw [h_v47]
    have b_v47 : Below v46.heap.size v46 v47 := by rw [← h_v47]; exact below_ra _ _
    have ST_v47 : Hid (St w [⟨w.heap.size, n, .nil, An, cn, Ak, ck⟩, ⟨w.heap.size + 1, m, .nil, Bn, dn, Bk, dk⟩] v47) := ST_v46.out.step b_v47
    have R_v47 : Hid (Blk v47 (w.heap.size + 1 + 1) #[.int .i64 0, .int .i64 0, .int .i64 0, .string ⟨#[]⟩, .slice none 0 0, .slice none 0 0] 25) := R_v46.out.below b_v47 R_v46.out.lt
    have K7_v47 : Hid (Blk v47 v0w.heap.size #[.int .u64 0, .int .u64 0, .bool false] 55) := K7_v46.out.below b_v47 K7_v46.out.lt
    have K6_v47 : Hid (Blk v47 v46.heap.size #[.int .u64 0, .int .u64 0, .bool false] 55) := by show Blk _ _ _ _; rw [← h_v47]; exact Blk.new _ _ _
    have hne : v46.heap.size ≠ v0w.heap.size := by have := K7_v46.out.lt; omega
    have hg6 : w.heap.size + 1 + 1 < v46.heap.size := R_v46.out.lt
    have y1_v47 : v47.cell? ⟨w.heap.size, 1, none⟩ = some (.int .i64 n.int) := (ST_v47.out.six 0 rfl).2.1
    have y3_v47 : v47.cell? ⟨w.heap.size + 1, 1, none⟩ = some (.int .i64 m.int) := (ST_v47.out.six 1 rfl).2.1
    refine hK.out _ _ (⟨y1_v47, y3_v47⟩) (fun hHeld => ?_)
    clear hK K
    try simp only [Act.put, List.setIfInBounds_toArray, List.set_cons_zero, List.set_cons_succ]
    refine wpAnyH_ready (rs := [8]) (by kernel_rfl) (by simp) ?_
    refine AllReadyH.cons (o := { dst := none, op := Go.Op.store 55 (Go.Operand.tmp 6) (Go.Operand.tmp 18), type := 0, pos := "decimal.go:127", after := #[{ on := 6, ground := Go.Ground.data }, { on := 2, ground := Go.Ground.data }, { on := 5, ground := Go.Ground.chain }, { on := 0, ground := Go.Ground.phase }, { on := 1, ground := Go.Ground.phase }, { on := 2, ground := Go.Ground.phase }, { on := 3, ground := Go.Ground.textOnly Go.Departure.lateStores }, { on := 4, ground := Go.Ground.textOnly Go.Departure.lateStores }, { on := 5, ground := Go.Ground.textOnly Go.Departure.lateStoresUnsure }, { on := 6, ground := Go.Ground.phase }, { on := 7, ground := Go.Ground.phase }], guard := none }) rfl (fun K hK => ?_) AllReadyH.nil
    have s0 : v47.cell? ⟨v46.heap.size, 0, none⟩ = some (.int .u64 0) := K6_v47.out.cell 0
    have s_0 := K6_v47.out.free 0
    have s1 : v47.cell? ⟨v46.heap.size, 1, none⟩ = some (.int .u64 0) := K6_v47.out.cell 1
    have s_1 := K6_v47.out.free 1
    have s2 : v47.cell? ⟨v46.heap.size, 2, none⟩ = some (.bool false) := K6_v47.out.cell 2
    have s_2 := K6_v47.out.free 2
    go_simp
    obtain ⟨v48, h_v48⟩ : ∃ v, (((v47.setCell ⟨v46.heap.size, 0, none⟩ (.int .u64 0)).setCell ⟨v46.heap.size, 1, none⟩ (.int .u64 (a : Int))).setCell ⟨v46.heap.size, 2, none⟩ (.bool b1)) = v := ⟨_, rfl⟩
    rw [h_v48]
    clear s0 s1 s2 s_0 s_1 s_2
    have X1_v48 : Hid (Blk v48 w.heap.size (ncells n An cn Ak F.nil.len ck).toArray 25) := by show Blk _ _ _ _; rw [← h_v48]; exact ((((show Blk v47 w.heap.size (ncells n An cn Ak F.nil.len ck).toArray 25 from (ST_v47.out.box 0 rfl).1).set_other 0 _ (by omega)).set_other 1 _ (by omega)).set_other 2 _ (by omega))
    have X2_v48 : Hid (Blk v48 (w.heap.size + 1) (ncells m Bn dn Bk F.nil.len dk).toArray 25) := by show Blk _ _ _ _; rw [← h_v48]; exact ((((show Blk v47 (w.heap.size + 1) (ncells m Bn dn Bk F.nil.len dk).toArray 25 from (ST_v47.out.box 1 rfl).1).set_other 0 _ (by omega)).set_other 1 _ (by omega)).set_other 2 _ (by omega))
    have R_v48 : Hid (Blk v48 (w.heap.size + 1 + 1) #[.int .i64 0, .int .i64 0, .int .i64 0, .string ⟨#[]⟩, .slice none 0 0, .slice none 0 0] 25) := by show Blk _ _ _ _; rw [← h_v48]; exact (((R_v47.out.set_other 0 _ (by omega)).set_other 1 _ (by omega)).set_other 2 _ (by omega))
    have BW_v48 : Hid (Below w.heap.size w v48) := by show Below _ _ _; rw [← h_v48]; exact ((ST_v47.out.1.setCell (by show _ ≤ v46.heap.size; omega) _).setCell (by show _ ≤ v46.heap.size; omega) _).setCell (by show _ ≤ v46.heap.size; omega) _
    have K6_v48 : Hid (Blk v48 v46.heap.size #[.int .u64 0, .int .u64 (a : Int), .bool b1] 55) := by show Blk _ _ _ _; rw [← h_v48]; exact Blk.tri_set K6_v47.out
    have K7_v48 : Hid (Blk v48 v0w.heap.size #[.int .u64 0, .int .u64 0, .bool false] 55) := by show Blk _ _ _ _; rw [← h_v48]; exact (((K7_v47.out.set_other 0 _ (by omega)).set_other 1 _ (by omega)).set_other 2 _ (by omega))
    have y1_v48 : v48.cell? ⟨w.heap.size, 1, none⟩ = some (.int .i64 n.int) := X1_v48.out.cell 1
    have y3_v48 : v48.cell? ⟨w.heap.size + 1, 1, none⟩ = some (.int .i64 m.int) := X2_v48.out.cell 1
    refine hK.out _ _ (⟨y1_v48, y3_v48⟩) (fun hHeld => ?_)
    clear hK K
    try simp only [Act.put, List.setIfInBounds_toArray, List.set_cons_zero, List.set_cons_succ]
    refine wpAnyH_ready (rs := [9]) (by kernel_rfl) (by simp) ?_
    refine AllReadyH.cons (o := { dst := none, op := Go.Op.store 55 (Go.Operand.tmp 7) (Go.Operand.tmp 21), type := 0, pos := "decimal.go:127", after := #[{ on := 7, ground := Go.Ground.data }, { on := 5, ground := Go.Ground.data }, { on := 8, ground := Go.Ground.chain }, { on := 0, ground := Go.Ground.phase }, { on := 1, ground := Go.Ground.phase }, { on := 2, ground := Go.Ground.phase }, { on := 3, ground := Go.Ground.phase }, { on := 4, ground := Go.Ground.phase }, { on := 5, ground := Go.Ground.phase }, { on := 6, ground := Go.Ground.phase }, { on := 7, ground := Go.Ground.phase }, { on := 8, ground := Go.Ground.phase }], guard := none }) rfl (fun K hK => ?_) AllReadyH.nil
    have s0 : v48.cell? ⟨v0w.heap.size, 0, none⟩ = some (.int .u64 0) := K7_v48.out.cell 0
    have s_0 := K7_v48.out.free 0
    have s1 : v48.cell? ⟨v0w.heap.size, 1, none⟩ = some (.int .u64 0) := K7_v48.out.cell 1
    have s_1 := K7_v48.out.free 1
    have s2 : v48.cell? ⟨v0w.heap.size, 2, none⟩ = some (.bool false) := K7_v48.out.cell 2
    have s_2 := K7_v48.out.free 2
    go_simp
    obtain ⟨v49, h_v49⟩ : ∃ v, (((v48.setCell ⟨v0w.heap.size, 0, none⟩ (.int .u64 0)).setCell ⟨v0w.heap.size, 1, none⟩ (.int .u64 (b : Int))).setCell ⟨v0w.heap.size, 2, none⟩ (.bool b2)) = v := ⟨_, rfl⟩
    rw [h_v49]
    clear s0 s1 s2 s_0 s_1 s_2
    have X1_v49 : Hid (Blk v49 w.heap.size (ncells n An cn Ak F.nil.len ck).toArray 25) := by show Blk _ _ _ _; rw [← h_v49]; exact ((((show Blk v48 w.heap.size (ncells n An cn Ak F.nil.len ck).toArray 25 from X1_v48.out).set_other 0 _ (by omega)).set_other 1 _ (by omega)).set_other 2 _ (by omega))
    have X2_v49 : Hid (Blk v49 (w.heap.size + 1) (ncells m Bn dn Bk F.nil.len dk).toArray 25) := by show Blk _ _ _ _; rw [← h_v49]; exact ((((show Blk v48 (w.heap.size + 1) (ncells m Bn dn Bk F.nil.len dk).toArray 25 from X2_v48.out).set_other 0 _ (by omega)).set_other 1 _ (by omega)).set_other 2 _ (by omega))
    have R_v49 : Hid (Blk v49 (w.heap.size + 1 + 1) #[.int .i64 0, .int .i64 0, .int .i64 0, .string ⟨#[]⟩, .slice none 0 0, .slice none 0 0] 25) := by show Blk _ _ _ _; rw [← h_v49]; exact (((R_v48.out.set_other 0 _ (by omega)).set_other 1 _ (by omega)).set_other 2 _ (by omega))
    have BW_v49 : Hid (Below w.heap.size w v49) := by show Below _ _ _; rw [← h_v49]; exact ((BW_v48.out.setCell (by show _ ≤ v0w.heap.size; omega) _).setCell (by show _ ≤ v0w.heap.size; omega) _).setCell (by show _ ≤ v0w.heap.size; omega) _
    have K7_v49 : Hid (Blk v49 v0w.heap.size #[.int .u64 0, .int .u64 (b : Int), .bool b2] 55) := by show Blk _ _ _ _; rw [← h_v49]; exact Blk.tri_set K7_v48.out
    have K6_v49 : Hid (Blk v49 v46.heap.size #[.int .u64 0, .int .u64 (a : Int), .bool b1] 55) := by show Blk _ _ _ _; rw [← h_v49]; exact (((K6_v48.out.set_other 0 _ (by omega)).set_other 1 _ (by omega)).set_other 2 _ (by omega))
    have y1_v49 : v49.cell? ⟨w.heap.size, 1, none⟩ = some (.int .i64 n.int) := X1_v49.out.cell 1
    have y3_v49 : v49.cell? ⟨w.heap.size + 1, 1, none⟩ = some (.int .i64 m.int) := X2_v49.out.cell 1
    have FIN : ∃ (wz : World) (g6 g7 : Nat), wz = v49 ∧ g6 = v46.heap.size ∧ g7 = v0w.heap.size := ⟨_, _, _, rfl, rfl, rfl⟩
    have FINH : Hid (Blk v49 w.heap.size (ncells n An cn Ak F.nil.len ck).toArray 25 ∧ Blk v49 (w.heap.size + 1) (ncells m Bn dn Bk F.nil.len dk).toArray 25 ∧ Blk v49 (w.heap.size + 1 + 1) #[.int .i64 0, .int .i64 0, .int .i64 0, .string ⟨#[]⟩, .slice none 0 0, .slice none 0 0] 25 ∧ Below w.heap.size w v49 ∧ Blk v49 v46.heap.size #[.int .u64 0, .int .u64 (a : Int), .bool b1] 55 ∧ Blk v49 v0w.heap.size #[.int .u64 0, .int .u64 (b : Int), .bool b2] 55) := ⟨X1_v49.out, X2_v49.out, R_v49.out, BW_v49.out, K6_v49.out, K7_v49.out⟩
    have e1 : v49.cell? ⟨v46.heap.size, 1, none⟩ = some (.int .u64 (a : Int)) := K6_v49.out.cell 1
    have e2 : v49.cell? ⟨v46.heap.size, 2, none⟩ = some (.bool b1) := K6_v49.out.cell 2
    have e3 : v49.cell? ⟨v0w.heap.size, 1, none⟩ = some (.int .u64 (b : Int)) := K7_v49.out.cell 1
    have e4 : v49.cell? ⟨v0w.heap.size, 2, none⟩ = some (.bool b2) := K7_v49.out.cell 2
    have e5 : v49.cell? ⟨w.heap.size, 2, none⟩ = some (.int .i64 n.scale) := X1_v49.out.cell 2
    have e6 : v49.cell? ⟨w.heap.size + 1, 2, none⟩ = some (.int .i64 m.scale) := X2_v49.out.cell 2
    refine hK.out _ _ (⟨y1_v49, y3_v49⟩) (fun hHeld => ?_)
    clear hK K
    try simp only [Act.put, List.setIfInBounds_toArray, List.set_cons_zero, List.set_cons_succ]
    refine wpAnyH_done (by kernel_rfl) ?_ _
    rotate_left 1
    refine AllReadyH.cons (o := { dst := some 6, op := Go.Op.alloc 55, type := 0, pos := "decimal.go:127", after := #[], guard := none }) rfl (fun K hK => ?_) AllReadyH.nil
    go_simp
    obtain ⟨v50, h_v50⟩ : ∃ v, v45.alloc (.cells #[.int .u64 0, .int .u64 0, .bool false] 55) = v := ⟨_, rfl⟩
    rw [h_v50]
    have b_v50 : Below v45.heap.size v45 v50 := by rw [← h_v50]; exact below_ra _ _
    have ST_v50 : Hid (St w [⟨w.heap.size, n, .nil, An, cn, Ak, ck⟩, ⟨w.heap.size + 1, m, .nil, Bn, dn, Bk, dk⟩] v50) := ST_v45.out.step b_v50
    have R_v50 : Hid (Blk v50 (w.heap.size + 1 + 1) #[.int .i64 0, .int .i64 0, .int .i64 0, .string ⟨#[]⟩, .slice none 0 0, .slice none 0 0] 25) := R_v45.out.below b_v50 R_v45.out.lt
    have K7_v50 : Hid (Blk v50 v0w.heap.size #[.int .u64 0, .int .u64 0, .bool false] 55) := K7_v45.out.below b_v50 K7_v45.out.lt
    have K6_v50 : Hid (Blk v50 v45.heap.size #[.int .u64 0, .int .u64 0, .bool false] 55) := by show Blk _ _ _ _; rw [← h_v50]; exact Blk.new _ _ _
    have hne : v45.heap.size ≠ v0w.heap.size := by have := K7_v45.out.lt; omega
    have hg6 : w.heap.size + 1 + 1 < v45.heap.size := R_v45.out.lt
    have y1_v50 : v50.cell? ⟨w.heap.size, 1, none⟩ = some (.int .i64 n.int) := (ST_v50.out.six 0 rfl).2.1
    have y3_v50 : v50.cell? ⟨w.heap.size + 1, 1, none⟩ = some (.int .i64 m.int) := (ST_v50.out.six 1 rfl).2.1
    refine hK.out _ _ (⟨y1_v50, y3_v50⟩) (fun hHeld => ?_)
    clear hK K
    try simp only [Act.put, List.setIfInBounds_toArray, List.set_cons_zero, List.set_cons_succ]
    refine wpAnyH_ready (rs := [5]) (by kernel_rfl) (by simp) ?_
    refine AllReadyH.cons (o := { dst := some 21, op := Go.Op.call { callee := Go.Callee.value (Go.Operand.func 31), args := #[Go.Operand.tmp 20, Go.Operand.const (Go.Value.int Go.IntKind.i64 0)], argTypes := #[3, 3] }, type := 55, pos := "decimal.go:127", after := #[{ on := 4, ground := Go.Ground.data }, { on := 2, ground := Go.Ground.chain }], guard := none }) rfl (fun K hK => ?_) AllReadyH.nil
    go_simp
    refine (HO2.out _).mono ?_
    rintro e v51 ⟨rfl, b_v51⟩
    have ST_v51 : Hid (St w [⟨w.heap.size, n, .nil, An, cn, Ak, ck⟩, ⟨w.heap.size + 1, m, .nil, Bn, dn, Bk, dk⟩] v51) := ST_v50.out.step b_v51
    have R_v51 : Hid (Blk v51 (w.heap.size + 1 + 1) #[.int .i64 0, .int .i64 0, .int .i64 0, .string ⟨#[]⟩, .slice none 0 0, .slice none 0 0] 25) := R_v50.out.below b_v51 R_v50.out.lt
    have K6_v51 : Hid (Blk v51 v45.heap.size #[.int .u64 0, .int .u64 0, .bool false] 55) := K6_v50.out.below b_v51 K6_v50.out.lt
    have K7_v51 : Hid (Blk v51 v0w.heap.size #[.int .u64 0, .int .u64 0, .bool false] 55) := K7_v50.out.below b_v51 K7_v50.out.lt
    have y1_v51 : v51.cell? ⟨w.heap.size, 1, none⟩ = some (.int .i64 n.int) := (ST_v51.out.six 0 rfl).2.1
    have y3_v51 : v51.cell? ⟨w.heap.size + 1, 1, none⟩ = some (.int .i64 m.int) := (ST_v51.out.six 1 rfl).2.1
    go_wp2_with fail
    refine hK.out _ _ (⟨y1_v51, y3_v51⟩) (fun hHeld => ?_)
    clear hK K
    try simp only [Act.put, List.setIfInBounds_toArray, List.set_cons_zero, List.set_cons_succ]
    refine wpAnyH_ready (rs := [8]) (by kernel_rfl) (by simp) ?_
    refine AllReadyH.cons (o := { dst := none, op := Go.Op.store 55 (Go.Operand.tmp 6) (Go.Operand.tmp 18), type := 0, pos := "decimal.go:127", after := #[{ on := 6, ground := Go.Ground.data }, { on := 2, ground := Go.Ground.data }, { on := 5, ground := Go.Ground.chain }, { on := 0, ground := Go.Ground.phase }, { on := 1, ground := Go.Ground.phase }, { on := 2, ground := Go.Ground.phase }, { on := 3, ground := Go.Ground.textOnly Go.Departure.lateStores }, { on := 4, ground := Go.Ground.textOnly Go.Departure.lateStores }, { on := 5, ground := Go.Ground.textOnly Go.Departure.lateStoresUnsure }, { on := 6, ground := Go.Ground.phase }, { on := 7, ground := Go.Ground.phase }], guard := none }) rfl (fun K hK => ?_) AllReadyH.nil
    have s0 : v51.cell? ⟨v45.heap.size, 0, none⟩ = some (.int .u64 0) := K6_v51.out.cell 0
    have s_0 := K6_v51.out.free 0
    have s1 : v51.cell? ⟨v45.heap.size, 1, none⟩ = some (.int .u64 0) := K6_v51.out.cell 1
    have s_1 := K6_v51.out.free 1
    have s2 : v51.cell? ⟨v45.heap.size, 2, none⟩ = some (.bool false) := K6_v51.out.cell 2
    have s_2 := K6_v51.out.free 2
    go_simp
    obtain ⟨v52, h_v52⟩ : ∃ v, (((v51.setCell ⟨v45.heap.size, 0, none⟩ (.int .u64 0)).setCell ⟨v45.heap.size, 1, none⟩ (.int .u64 (a : Int))).setCell ⟨v45.heap.size, 2, none⟩ (.bool b1)) = v := ⟨_, rfl⟩
    rw [h_v52]
    clear s0 s1 s2 s_0 s_1 s_2
    have X1_v52 : Hid (Blk v52 w.heap.size (ncells n An cn Ak F.nil.len ck).toArray 25) := by show Blk _ _ _ _; rw [← h_v52]; exact ((((show Blk v51 w.heap.size (ncells n An cn Ak F.nil.len ck).toArray 25 from (ST_v51.out.box 0 rfl).1).set_other 0 _ (by omega)).set_other 1 _ (by omega)).set_other 2 _ (by omega))
    have X2_v52 : Hid (Blk v52 (w.heap.size + 1) (ncells m Bn dn Bk F.nil.len dk).toArray 25) := by show Blk _ _ _ _; rw [← h_v52]; exact ((((show Blk v51 (w.heap.size + 1) (ncells m Bn dn Bk F.nil.len dk).toArray 25 from (ST_v51.out.box 1 rfl).1).set_other 0 _ (by omega)).set_other 1 _ (by omega)).set_other 2 _ (by omega))
    have R_v52 : Hid (Blk v52 (w.heap.size + 1 + 1) #[.int .i64 0, .int .i64 0, .int .i64 0, .string ⟨#[]⟩, .slice none 0 0, .slice none 0 0] 25) := by show Blk _ _ _ _; rw [← h_v52]; exact (((R_v51.out.set_other 0 _ (by omega)).set_other 1 _ (by omega)).set_other 2 _ (by omega))
    have BW_v52 : Hid (Below w.heap.size w v52) := by show Below _ _ _; rw [← h_v52]; exact ((ST_v51.out.1.setCell (by show _ ≤ v45.heap.size; omega) _).setCell (by show _ ≤ v45.heap.size; omega) _).setCell (by show _ ≤ v45.heap.size; omega) _
    have K6_v52 : Hid (Blk v52 v45.heap.size #[.int .u64 0, .int .u64 (a : Int), .bool b1] 55) := by show Blk _ _ _ _; rw [← h_v52]; exact Blk.tri_set K6_v51.out
    have K7_v52 : Hid (Blk v52 v0w.heap.size #[.int .u64 0, .int .u64 0, .bool false] 55) := by show Blk _ _ _ _; rw [← h_v52]; exact (((K7_v51.out.set_other 0 _ (by omega)).set_other 1 _ (by omega)).set_other 2 _ (by omega))
    have y1_v52 : v52.cell? ⟨w.heap.size, 1, none⟩ = some (.int .i64 n.int) := X1_v52.out.cell 1
    have y3_v52 : v52.cell? ⟨w.heap.size + 1, 1, none⟩ = some (.int .i64 m.int) := X2_v52.out.cell 1
    refine hK.out _ _ (⟨y1_v52, y3_v52⟩) (fun hHeld => ?_)
    clear hK K
    try simp only [Act.put, List.setIfInBounds_toArray, List.set_cons_zero, List.set_cons_succ]
    refine wpAnyH_ready (rs := [9]) (by kernel_rfl) (by simp) ?_
    refine AllReadyH.cons (o := { dst := none, op := Go.Op.store 55 (Go.Operand.tmp 7) (Go.Operand.tmp 21), type := 0, pos := "decimal.go:127", after := #[{ on := 7, ground := Go.Ground.data }, { on := 5, ground := Go.Ground.data }, { on := 8, ground := Go.Ground.chain }, { on := 0, ground := Go.Ground.phase }, { on := 1, ground := Go.Ground.phase }, { on := 2, ground := Go.Ground.phase }, { on := 3, ground := Go.Ground.phase }, { on := 4, ground := Go.Ground.phase }, { on := 5, ground := Go.Ground.phase }, { on := 6, ground := Go.Ground.phase }, { on := 7, ground := Go.Ground.phase }, { on := 8, ground := Go.Ground.phase }], guard := none }) rfl (fun K hK => ?_) AllReadyH.nil
    have s0 : v52.cell? ⟨v0w.heap.size, 0, none⟩ = some (.int .u64 0) := K7_v52.out.cell 0
    have s_0 := K7_v52.out.free 0
    have s1 : v52.cell? ⟨v0w.heap.size, 1, none⟩ = some (.int .u64 0) := K7_v52.out.cell 1
    have s_1 := K7_v52.out.free 1
    have s2 : v52.cell? ⟨v0w.heap.size, 2, none⟩ = some (.bool false) := K7_v52.out.cell 2
    have s_2 := K7_v52.out.free 2
    go_simp
    obtain ⟨v53, h_v53⟩ : ∃ v, (((v52.setCell ⟨v0w.heap.size, 0, none⟩ (.int .u64 0)).setCell ⟨v0w.heap.size, 1, none⟩ (.int .u64 (b : Int))).setCell ⟨v0w.heap.size, 2, none⟩ (.bool b2)) = v := ⟨_, rfl⟩
    rw [h_v53]
    clear s0 s1 s2 s_0 s_1 s_2
    have X1_v53 : Hid (Blk v53 w.heap.size (ncells n An cn Ak F.nil.len ck).toArray 25) := by show Blk _ _ _ _; rw [← h_v53]; exact ((((show Blk v52 w.heap.size (ncells n An cn Ak F.nil.len ck).toArray 25 from X1_v52.out).set_other 0 _ (by omega)).set_other 1 _ (by omega)).set_other 2 _ (by omega))
    have X2_v53 : Hid (Blk v53 (w.heap.size + 1) (ncells m Bn dn Bk F.nil.len dk).toArray 25) := by show Blk _ _ _ _; rw [← h_v53]; exact ((((show Blk v52 (w.heap.size + 1) (ncells m Bn dn Bk F.nil.len dk).toArray 25 from X2_v52.out).set_other 0 _ (by omega)).set_other 1 _ (by omega)).set_other 2 _ (by omega))
    have R_v53 : Hid (Blk v53 (w.heap.size + 1 + 1) #[.int .i64 0, .int .i64 0, .int .i64 0, .string ⟨#[]⟩, .slice none 0 0, .slice none 0 0] 25) := by show Blk _ _ _ _; rw [← h_v53]; exact (((R_v52.out.set_other 0 _ (by omega)).set_other 1 _ (by omega)).set_other 2 _ (by omega))
    have BW_v53 : Hid (Below w.heap.size w v53) := by show Below _ _ _; rw [← h_v53]; exact ((BW_v52.out.setCell (by show _ ≤ v0w.heap.size; omega) _).setCell (by show _ ≤ v0w.heap.size; omega) _).setCell (by show _ ≤ v0w.heap.size; omega) _
    have K7_v53 : Hid (Blk v53 v0w.heap.size #[.int .u64 0, .int .u64 (b : Int), .bool b2] 55) := by show Blk _ _ _ _; rw [← h_v53]; exact Blk.tri_set K7_v52.out
    have K6_v53 : Hid (Blk v53 v45.heap.size #[.int .u64 0, .int .u64 (a : Int), .bool b1] 55) := by show Blk _ _ _ _; rw [← h_v53]; exact (((K6_v52.out.set_other 0 _ (by omega)).set_other 1 _ (by omega)).set_other 2 _ (by omega))
    have y1_v53 : v53.cell? ⟨w.heap.size, 1, none⟩ = some (.int .i64 n.int) := X1_v53.out.cell 1
    have y3_v53 : v53.cell? ⟨w.heap.size + 1, 1, none⟩ = some (.int .i64 m.int) := X2_v53.out.cell 1
    have FIN : ∃ (wz : World) (g6 g7 : Nat), wz = v53 ∧ g6 = v45.heap.size ∧ g7 = v0w.heap.size := ⟨_, _, _, rfl, rfl, rfl⟩
    have FINH : Hid (Blk v53 w.heap.size (ncells n An cn Ak F.nil.len ck).toArray 25 ∧ Blk v53 (w.heap.size + 1) (ncells m Bn dn Bk F.nil.len dk).toArray 25 ∧ Blk v53 (w.heap.size + 1 + 1) #[.int .i64 0, .int .i64 0, .int .i64 0, .string ⟨#[]⟩, .slice none 0 0, .slice none 0 0] 25 ∧ Below w.heap.size w v53 ∧ Blk v53 v45.heap.size #[.int .u64 0, .int .u64 (a : Int), .bool b1] 55 ∧ Blk v53 v0w.heap.size #[.int .u64 0, .int .u64 (b : Int), .bool b2] 55) := ⟨X1_v53.out, X2_v53.out, R_v53.out, BW_v53.out, K6_v53.out, K7_v53.out⟩
    have e1 : v53.cell? ⟨v45.heap.size, 1, none⟩ = some (.int .u64 (a : Int)) := K6_v53.out.cell 1
    have e2 : v53.cell? ⟨v45.heap.size, 2, none⟩ = some (.bool b1) := K6_v53.out.cell 2
    have e3 : v53.cell? ⟨v0w.heap.size, 1, none⟩ = some (.int .u64 (b : Int)) := K7_v53.out.cell 1
    have e4 : v53.cell? ⟨v0w.heap.size, 2, none⟩ = some (.bool b2) := K7_v53.out.cell 2
    have e5 : v53.cell? ⟨w.heap.size, 2, none⟩ = some (.int .i64 n.scale) := X1_v53.out.cell 2
    have e6 : v53.cell? ⟨w.heap.size + 1, 2, none⟩ = some (.int .i64 m.scale) := X2_v53.out.cell 2
    refine hK.out _ _ (⟨y1_v53, y3_v53⟩) (fun hHeld => ?_)
    clear hK K
    try simp only [Act.put, List.setIfInBounds_toArray, List.set_cons_zero, List.set_cons_succ]
    refine wpAnyH_done (by kernel_rfl) ?_ _
    rotate_left 1
    refine AllReadyH.cons (o := { dst := some 6, op := Go.Op.alloc 55, type := 0, pos := "decimal.go:127", after := #[], guard := none }) rfl (fun K hK => ?_) AllReadyH.nil
    go_simp
    obtain ⟨v54, h_v54⟩ : ∃ v, v44.alloc (.cells #[.int .u64 0, .int .u64 0, .bool false] 55) = v := ⟨_, rfl⟩
    rw [h_v54]
    have b_v54 : Below v44.heap.size v44 v54 := by rw [← h_v54]; exact below_ra _ _
    have ST_v54 : Hid (St w [⟨w.heap.size, n, .nil, An, cn, Ak, ck⟩, ⟨w.heap.size + 1, m, .nil, Bn, dn, Bk, dk⟩] v54) := ST_v44.out.step b_v54
    have R_v54 : Hid (Blk v54 (w.heap.size + 1 + 1) #[.int .i64 0, .int .i64 0, .int .i64 0, .string ⟨#[]⟩, .slice none 0 0, .slice none 0 0] 25) := R_v44.out.below b_v54 R_v44.out.lt
    have K7_v54 : Hid (Blk v54 v0w.heap.size #[.int .u64 0, .int .u64 0, .bool false] 55) := K7_v44.out.below b_v54 K7_v44.out.lt
    have K6_v54 : Hid (Blk v54 v44.heap.size #[.int .u64 0, .int .u64 0, .bool false] 55) := by show Blk _ _ _ _; rw [← h_v54]; exact Blk.new _ _ _
    have hne : v44.heap.size ≠ v0w.heap.size := by have := K7_v44.out.lt; omega
    have hg6 : w.heap.size + 1 + 1 < v44.heap.size := R_v44.out.lt
    have y1_v54 : v54.cell? ⟨w.heap.size, 1, none⟩ = some (.int .i64 n.int) := (ST_v54.out.six 0 rfl).2.1
    have y3_v54 : v54.cell? ⟨w.heap.size + 1, 1, none⟩ = some (.int .i64 m.int) := (ST_v54.out.six 1 rfl).2.1
    refine hK.out _ _ (⟨y1_v54, y3_v54⟩) (fun hHeld => ?_)
    clear hK K
    try simp only [Act.put, List.setIfInBounds_toArray, List.set_cons_zero, List.set_cons_succ]
    refine wpAnyH_ready (rs := [2]) (by kernel_rfl) (by simp) ?_
    refine AllReadyH.cons (o := { dst := some 18, op := Go.Op.call { callee := Go.Callee.value (Go.Operand.func 31), args := #[Go.Operand.tmp 17, Go.Operand.const (Go.Value.int Go.IntKind.i64 0)], argTypes := #[3, 3] }, type := 55, pos := "decimal.go:127", after := #[{ on := 1, ground := Go.Ground.data }], guard := none }) rfl (fun K hK => ?_) AllReadyH.nil
    go_simp
    refine (HO1.out _).mono ?_
    rintro e v55 ⟨rfl, b_v55⟩
    have ST_v55 : Hid (St w [⟨w.heap.size, n, .nil, An, cn, Ak, ck⟩, ⟨w.heap.size + 1, m, .nil, Bn, dn, Bk, dk⟩] v55) := ST_v54.out.step b_v55
    have R_v55 : Hid (Blk v55 (w.heap.size + 1 + 1) #[.int .i64 0, .int .i64 0, .int .i64 0, .string ⟨#[]⟩, .slice none 0 0, .slice none 0 0] 25) := R_v54.out.below b_v55 R_v54.out.lt
    have K6_v55 : Hid (Blk v55 v44.heap.size #[.int .u64 0, .int .u64 0, .bool false] 55) := K6_v54.out.below b_v55 K6_v54.out.lt
    have K7_v55 : Hid (Blk v55 v0w.heap.size #[.int .u64 0, .int .u64 0, .bool false] 55) := K7_v54.out.below b_v55 K7_v54.out.lt
    have y1_v55 : v55.cell? ⟨w.heap.size, 1, none⟩ = some (.int .i64 n.int) := (ST_v55.out.six 0 rfl).2.1
    have y3_v55 : v55.cell? ⟨w.heap.size + 1, 1, none⟩ = some (.int .i64 m.int) := (ST_v55.out.six 1 rfl).2.1
    go_wp2_with fail
    refine hK.out _ _ (⟨y1_v55, y3_v55⟩) (fun hHeld => ?_)
    clear hK K
    try simp only [Act.put, List.setIfInBounds_toArray, List.set_cons_zero, List.set_cons_succ]
    refine wpAnyH_ready (rs := [5]) (by kernel_rfl) (by simp) ?_
    refine AllReadyH.cons (o := { dst := some 21, op := Go.Op.call { callee := Go.Callee.value (Go.Operand.func 31), args := #[Go.Operand.tmp 20, Go.Operand.const (Go.Value.int Go.IntKind.i64 0)], argTypes := #[3, 3] }, type := 55, pos := "decimal.go:127", after := #[{ on := 4, ground := Go.Ground.data }, { on := 2, ground := Go.Ground.chain }], guard := none }) rfl (fun K hK => ?_) AllReadyH.nil
    go_simp
    refine (HO2.out _).mono ?_
    rintro e v56 ⟨rfl, b_v56⟩
    have ST_v56 : Hid (St w [⟨w.heap.size, n, .nil, An, cn, Ak, ck⟩, ⟨w.heap.size + 1, m, .nil, Bn, dn, Bk, dk⟩] v56) := ST_v55.out.step b_v56
    have R_v56 : Hid (Blk v56 (w.heap.size + 1 + 1) #[.int .i64 0, .int .i64 0, .int .i64 0, .string ⟨#[]⟩, .slice none 0 0, .slice none 0 0] 25) := R_v55.out.below b_v56 R_v55.out.lt
    have K6_v56 : Hid (Blk v56 v44.heap.size #[.int .u64 0, .int .u64 0, .bool false] 55) := K6_v55.out.below b_v56 K6_v55.out.lt
    have K7_v56 : Hid (Blk v56 v0w.heap.size #[.int .u64 0, .int .u64 0, .bool false] 55) := K7_v55.out.below b_v56 K7_v55.out.lt
    have y1_v56 : v56.cell? ⟨w.heap.size, 1, none⟩ = some (.int .i64 n.int) := (ST_v56.out.six 0 rfl).2.1
    have y3_v56 : v56.cell? ⟨w.heap.size + 1, 1, none⟩ = some (.int .i64 m.int) := (ST_v56.out.six 1 rfl).2.1
    go_wp2_with fail
    refine hK.out _ _ (⟨y1_v56, y3_v56⟩) (fun hHeld => ?_)
    clear hK K
    try simp only [Act.put, List.setIfInBounds_toArray, List.set_cons_zero, List.set_cons_succ]
    refine wpAnyH_ready (rs := [8]) (by kernel_rfl) (by simp) ?_
    refine AllReadyH.cons (o := { dst := none, op := Go.Op.store 55 (Go.Operand.tmp 6) (Go.Operand.tmp 18), type := 0, pos := "decimal.go:127", after := #[{ on := 6, ground := Go.Ground.data }, { on := 2, ground := Go.Ground.data }, { on := 5, ground := Go.Ground.chain }, { on := 0, ground := Go.Ground.phase }, { on := 1, ground := Go.Ground.phase }, { on := 2, ground := Go.Ground.phase }, { on := 3, ground := Go.Ground.textOnly Go.Departure.lateStores }, { on := 4, ground := Go.Ground.textOnly Go.Departure.lateStores }, { on := 5, ground := Go.Ground.textOnly Go.Departure.lateStoresUnsure }, { on := 6, ground := Go.Ground.phase }, { on := 7, ground := Go.Ground.phase }], guard := none }) rfl (fun K hK => ?_) AllReadyH.nil
    have s0 : v56.cell? ⟨v44.heap.size, 0, none⟩ = some (.int .u64 0) := K6_v56.out.cell 0
    have s_0 := K6_v56.out.free 0
    have s1 : v56.cell? ⟨v44.heap.size, 1, none⟩ = some (.int .u64 0) := K6_v56.out.cell 1
    have s_1 := K6_v56.out.free 1
    have s2 : v56.cell? ⟨v44.heap.size, 2, none⟩ = some (.bool false) := K6_v56.out.cell 2
    have s_2 := K6_v56.out.free 2
    go_simp
    obtain ⟨v57, h_v57⟩ : ∃ v, (((v56.setCell ⟨v44.heap.size, 0, none⟩ (.int .u64 0)).setCell ⟨v44.heap.size, 1, none⟩ (.int .u64 (a : Int))).setCell ⟨v44.heap.size, 2, none⟩ (.bool b1)) = v := ⟨_, rfl⟩
    rw [h_v57]
    clear s0 s1 s2 s_0 s_1 s_2
    have X1_v57 : Hid (Blk v57 w.heap.size (ncells n An cn Ak F.nil.len ck).toArray 25) := by show Blk _ _ _ _; rw [← h_v57]; exact ((((show Blk v56 w.heap.size (ncells n An cn Ak F.nil.len ck).toArray 25 from (ST_v56.out.box 0 rfl).1).set_other 0 _ (by omega)).set_other 1 _ (by omega)).set_other 2 _ (by omega))
    have X2_v57 : Hid (Blk v57 (w.heap.size + 1) (ncells m Bn dn Bk F.nil.len dk).toArray 25) := by show Blk _ _ _ _; rw [← h_v57]; exact ((((show Blk v56 (w.heap.size + 1) (ncells m Bn dn Bk F.nil.len dk).toArray 25 from (ST_v56.out.box 1 rfl).1).set_other 0 _ (by omega)).set_other 1 _ (by omega)).set_other 2 _ (by omega))
    have R_v57 : Hid (Blk v57 (w.heap.size + 1 + 1) #[.int .i64 0, .int .i64 0, .int .i64 0, .string ⟨#[]⟩, .slice none 0 0, .slice none 0 0] 25) := by show Blk _ _ _ _; rw [← h_v57]; exact (((R_v56.out.set_other 0 _ (by omega)).set_other 1 _ (by omega)).set_other 2 _ (by omega))
    have BW_v57 : Hid (Below w.heap.size w v57) := by show Below _ _ _; rw [← h_v57]; exact ((ST_v56.out.1.setCell (by show _ ≤ v44.heap.size; omega) _).setCell (by show _ ≤ v44.heap.size; omega) _).setCell (by show _ ≤ v44.heap.size; omega) _
    have K6_v57 : Hid (Blk v57 v44.heap.size #[.int .u64 0, .int .u64 (a : Int), .bool b1] 55) := by show Blk _ _ _ _; rw [← h_v57]; exact Blk.tri_set K6_v56.out
    have K7_v57 : Hid (Blk v57 v0w.heap.size #[.int .u64 0, .int .u64 0, .bool false] 55) := by show Blk _ _ _ _; rw [← h_v57]; exact (((K7_v56.out.set_other 0 _ (by omega)).set_other 1 _ (by omega)).set_other 2 _ (by omega))
    have y1_v57 : v57.cell? ⟨w.heap.size, 1, none⟩ = some (.int .i64 n.int) := X1_v57.out.cell 1
    have y3_v57 : v57.cell? ⟨w.heap.size + 1, 1, none⟩ = some (.int .i64 m.int) := X2_v57.out.cell 1
    refine hK.out _ _ (⟨y1_v57, y3_v57⟩) (fun hHeld => ?_)
    clear hK K
    try simp only [Act.put, List.setIfInBounds_toArray, List.set_cons_zero, List.set_cons_succ]
    refine wpAnyH_ready (rs := [9]) (by kernel_rfl) (by simp) ?_
    refine AllReadyH.cons (o := { dst := none, op := Go.Op.store 55 (Go.Operand.tmp 7) (Go.Operand.tmp 21), type := 0, pos := "decimal.go:127", after := #[{ on := 7, ground := Go.Ground.data }, { on := 5, ground := Go.Ground.data }, { on := 8, ground := Go.Ground.chain }, { on := 0, ground := Go.Ground.phase }, { on := 1, ground := Go.Ground.phase }, { on := 2, ground := Go.Ground.phase }, { on := 3, ground := Go.Ground.phase }, { on := 4, ground := Go.Ground.phase }, { on := 5, ground := Go.Ground.phase }, { on := 6, ground := Go.Ground.phase }, { on := 7, ground := Go.Ground.phase }, { on := 8, ground := Go.Ground.phase }], guard := none }) rfl (fun K hK => ?_) AllReadyH.nil
    have s0 : v57.cell? ⟨v0w.heap.size, 0, none⟩ = some (.int .u64 0) := K7_v57.out.cell 0
    have s_0 := K7_v57.out.free 0
    have s1 : v57.cell? ⟨v0w.heap.size, 1, none⟩ = some (.int .u64 0) := K7_v57.out.cell 1
    have s_1 := K7_v57.out.free 1
    have s2 : v57.cell? ⟨v0w.heap.size, 2, none⟩ = some (.bool false) := K7_v57.out.cell 2
    have s_2 := K7_v57.out.free 2
    go_simp
    obtain ⟨v58, h_v58⟩ : ∃ v, (((v57.setCell ⟨v0w.heap.size, 0, none⟩ (.int .u64 0)).setCell ⟨v0w.heap.size, 1, none⟩ (.int .u64 (b : Int))).setCell ⟨v0w.heap.size, 2, none⟩ (.bool b2)) = v := ⟨_, rfl⟩
    rw [h_v58]
    clear s0 s1 s2 s_0 s_1 s_2
    have X1_v58 : Hid (Blk v58 w.heap.size (ncells n An cn Ak F.nil.len ck).toArray 25) := by show Blk _ _ _ _; rw [← h_v58]; exact ((((show Blk v57 w.heap.size (ncells n An cn Ak F.nil.len ck).toArray 25 from X1_v57.out).set_other 0 _ (by omega)).set_other 1 _ (by omega)).set_other 2 _ (by omega))
    have X2_v58 : Hid (Blk v58 (w.heap.size + 1) (ncells m Bn dn Bk F.nil.len dk).toArray 25) := by show Blk _ _ _ _; rw [← h_v58]; exact ((((show Blk v57 (w.heap.size + 1) (ncells m Bn dn Bk F.nil.len dk).toArray 25 from X2_v57.out).set_other 0 _ (by omega)).set_other 1 _ (by omega)).set_other 2 _ (by omega))
    have R_v58 : Hid (Blk v58 (w.heap.size + 1 + 1) #[.int .i64 0, .int .i64 0, .int .i64 0, .string ⟨#[]⟩, .slice none 0 0, .slice none 0 0] 25) := by show Blk _ _ _ _; rw [← h_v58]; exact (((R_v57.out.set_other 0 _ (by omega)).set_other 1 _ (by omega)).set_other 2 _ (by omega))
    have BW_v58 : Hid (Below w.heap.size w v58) := by show Below _ _ _; rw [← h_v58]; exact ((BW_v57.out.setCell (by show _ ≤ v0w.heap.size; omega) _).setCell (by show _ ≤ v0w.heap.size; omega) _).setCell (by show _ ≤ v0w.heap.size; omega) _
    have K7_v58 : Hid (Blk v58 v0w.heap.size #[.int .u64 0, .int .u64 (b : Int), .bool b2] 55) := by show Blk _ _ _ _; rw [← h_v58]; exact Blk.tri_set K7_v57.out
    have K6_v58 : Hid (Blk v58 v44.heap.size #[.int .u64 0, .int .u64 (a : Int), .bool b1] 55) := by show Blk _ _ _ _; rw [← h_v58]; exact (((K6_v57.out.set_other 0 _ (by omega)).set_other 1 _ (by omega)).set_other 2 _ (by omega))
    have y1_v58 : v58.cell? ⟨w.heap.size, 1, none⟩ = some (.int .i64 n.int) := X1_v58.out.cell 1
    have y3_v58 : v58.cell? ⟨w.heap.size + 1, 1, none⟩ = some (.int .i64 m.int) := X2_v58.out.cell 1
    have FIN : ∃ (wz : World) (g6 g7 : Nat), wz = v58 ∧ g6 = v44.heap.size ∧ g7 = v0w.heap.size := ⟨_, _, _, rfl, rfl, rfl⟩
    have FINH : Hid (Blk v58 w.heap.size (ncells n An cn Ak F.nil.len ck).toArray 25 ∧ Blk v58 (w.heap.size + 1) (ncells m Bn dn Bk F.nil.len dk).toArray 25 ∧ Blk v58 (w.heap.size + 1 + 1) #[.int .i64 0, .int .i64 0, .int .i64 0, .string ⟨#[]⟩, .slice none 0 0, .slice none 0 0] 25 ∧ Below w.heap.size w v58 ∧ Blk v58 v44.heap.size #[.int .u64 0, .int .u64 (a : Int), .bool b1] 55 ∧ Blk v58 v0w.heap.size #[.int .u64 0, .int .u64 (b : Int), .bool b2] 55) := ⟨X1_v58.out, X2_v58.out, R_v58.out, BW_v58.out, K6_v58.out, K7_v58.out⟩
    have e1 : v58.cell? ⟨v44.heap.size, 1, none⟩ = some (.int .u64 (a : Int)) := K6_v58.out.cell 1
    have e2 : v58.cell? ⟨v44.heap.size, 2, none⟩ = some (.bool b1) := K6_v58.out.cell 2
    have e3 : v58.cell? ⟨v0w.heap.size, 1, none⟩ = some (.int .u64 (b : Int)) := K7_v58.out.cell 1
    have e4 : v58.cell? ⟨v0w.heap.size, 2, none⟩ = some (.bool b2) := K7_v58.out.cell 2
    have e5 : v58.cell? ⟨w.heap.size, 2, none⟩ = some (.int .i64 n.scale) := X1_v58.out.cell 2
    have e6 : v58.cell? ⟨w.heap.size + 1, 2, none⟩ = some (.int .i64 m.scale) := X2_v58.out.cell 2
    refine hK.out _ _ (⟨y1_v58, y3_v58⟩) (fun hHeld => ?_)
    clear hK K
    try simp only [Act.put, List.setIfInBounds_toArray, List.set_cons_zero, List.set_cons_succ]
    refine wpAnyH_done (by kernel_rfl) ?_ _
    all_goals (
      obtain ⟨kX, kY, kR, kB, k6, k7⟩ := FINH.out
      have KRH := Lib.hid kR
      have KBH := Lib.hid kB
      have hgr := kR.lt
      clear kX kY kR kB k6 k7 FINH FIN
      go_wp2_with (go_at_call 38; refine (HMU.out _).mono ?_; rintro e w' ⟨rfl, rfl⟩)
      refine (HL.out _).mono ?_
      rintro e w9 ⟨rfl, b9⟩
      have R9 := Lib.hid (KRH.out.below b9 hgr)
      have B9 := Lib.hid (KBH.out.trans (b9.mono KBH.out.size))
      have p0 : w9.cell? ⟨w.heap.size + 1 + 1, 0, none⟩ = some (.int .i64 0) := R9.out.cell 0
      have q_0 := R9.out.free 0
      have p1 : w9.cell? ⟨w.heap.size + 1 + 1, 1, none⟩ = some (.int .i64 0) := R9.out.cell 1
      have q_1 := R9.out.free 1
      have p2 : w9.cell? ⟨w.heap.size + 1 + 1, 2, none⟩ = some (.int .i64 0) := R9.out.cell 2
      have q_2 := R9.out.free 2
      have p3 : w9.cell? ⟨w.heap.size + 1 + 1, 3, none⟩ = some (.string ⟨#[]⟩) := R9.out.cell 3
      have q_3 := R9.out.free 3
      have p4 : w9.cell? ⟨w.heap.size + 1 + 1, 4, none⟩ = some (.slice none 0 0) := R9.out.cell 4
      have q_4 := R9.out.free 4
      have p5 : w9.cell? ⟨w.heap.size + 1 + 1, 5, none⟩ = some (.slice none 0 0) := R9.out.cell 5
      have q_5 := R9.out.free 5
      go_wp2_with fail
      exact ret6 Tryd.results16 rfl rfl R9.out (by omega) B9.out HV.out)
end Go.Proofs.YtfcbcbpnlnkpcaaDoor

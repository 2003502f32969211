/- decimal: Add, Sub, Mul. (Printed by a small program of mine, gen/mkadd3.py.) -/
import Derived.Test.YtfcbcbpnlnkpcaaDoorQNum
import Derived.WalkKit
import Derived.Deep.RegionHeld3
namespace Go.Proofs.YtfcbcbpnlnkpcaaDoor
set_option linter.all false
open Go.RowKit
/-- What is answered where one is no number. -/
def ansE : Value := .tuple #[.agg #[.int .i64 0, .int .i64 0, .int .i64 0, .string ⟨#[]⟩, .slice none 0 0, .slice none 0 0], .int .i64 11]
theorem i64w {x : Int} (h0 : -9223372036854775808 ≤ x) (h1 : x ≤ 9223372036854775807) : IntKind.i64.wrap x = x := by
  simp only [IntKind.wrap, IntKind.bits, IntKind.signed]
  (repeat' split) <;> simp_all <;> omega
theorem ansv_form (o : Option Nd) : ∃ (x0 x1 x2 : Int) (s : ByteArray) (e : Int), ansv o = .tuple #[.agg #[.int .i64 x0, .int .i64 x1, .int .i64 x2, .string s, .slice none 0 0, .slice none 0 0], .int .i64 e] := by
  cases o <;> exact ⟨_, _, _, _, _, rfl⟩
theorem sg_mul (n : Int) (t : Nat) : sg (decide (n < 0)) (n.natAbs * 10 ^ t) = n * 10 ^ t := by
  by_cases h : n < 0
  · rw [decide_eq_true h]
    obtain ⟨m, rfl⟩ : ∃ m : Nat, n = -(m : Int) := ⟨n.natAbs, by omega⟩
    simp [sg, Int.neg_mul]
  · rw [decide_eq_false h]
    obtain ⟨m, rfl⟩ : ∃ m : Nat, n = (m : Int) := ⟨n.natAbs, by omega⟩
    simp [sg]
theorem wide_lt {n : Int} (hn : I64 n) {t : Nat} (ht : t ≤ 18) : n.natAbs * 10 ^ t < 170141183460469231731687303715884105728 := by
  obtain ⟨h1, h2⟩ := hn
  have : 10 ^ t ≤ 10 ^ 18 := Nat.pow_le_pow_right (by omega) ht
  have h3 : n.natAbs * 10 ^ t ≤ 9223372036854775808 * 10 ^ 18 := Nat.mul_le_mul (by omega) this
  omega
/-- of, as a wide number. -/
theorem of_wide (n : Int) (hn : I64 n) (x : Int) (h0 : 0 ≤ x) (h1 : x ≤ 18) : ∃ O : Value, WideIs O (n * 10 ^ x.toNat) ∧ (n * 10 ^ x.toNat).natAbs < 170141183460469231731687303715884105728 ∧
    ∀ w, Calls Tryd.prog 31 #[.int .i64 n, .int .i64 x] w (Ret O w) := by
  have hl := wide_lt hn (t := x.toNat) (by omega)
  refine ⟨.agg #[.int .u64 ((n.natAbs * 10 ^ x.toNat / 18446744073709551616 : Nat) : Int), .int .u64 ((n.natAbs * 10 ^ x.toNat % 18446744073709551616 : Nat) : Int), .bool (decide (n < 0))], ⟨n.natAbs * 10 ^ x.toNat / 18446744073709551616, n.natAbs * 10 ^ x.toNat % 18446744073709551616, decide (n < 0), rfl, by omega, Nat.mod_lt _ (by decide), ?_⟩, ?_, fun w => ?_⟩
  · rw [show n.natAbs * 10 ^ x.toNat / 18446744073709551616 * 18446744073709551616 + n.natAbs * 10 ^ x.toNat % 18446744073709551616 = n.natAbs * 10 ^ x.toNat from by omega]
    exact (sg_mul n _).symm
  · rw [← sg_mul, sg_nat]; exact hl
  · have := of_any n hn x.toNat (by omega) w
    rw [show ((x.toNat : Nat) : Int) = x from by omega] at this
    exact this
set_option maxRecDepth 100000 in
set_option maxHeartbeats 6400000 in
theorem Add_any (n : Nd) (k : F) (m : Nd) (q : F) (v u : Value) (w : World) (hv : Vo w (· < w.heap.size) n k v) (hu : Vo w (· < w.heap.size) m q u) :
    Calls Tryd.prog 15 #[v, u] w (Ret (if (numB n k && numB m q) = true then ansv (leastP (vN n + vN m) 18) else ansE) w) := by
  have hare : Hid (∀ (A : Option Addr) (w : World), Kids w (· < w.heap.size) A (.cons n k (.cons m q .nil)) → Calls Tryd.prog 36 #[.slice A 2 2] w (Ret (.bool (areF (.cons n k (.cons m q .nil)))) w)) := fun A w h => are_any A (.cons n k (.cons m q .nil)) w (by simp [F.len]) h
  obtain ⟨An, cn, Ak, ck, rfl, hok1, _, _, _, _⟩ := id hv
  obtain ⟨Bn, dn, Bk, dk, rfl, hok2, _, _, _, _⟩ := id hu
  have ST0 : St w [⟨w.heap.size, n, k, An, cn, Ak, ck⟩, ⟨w.heap.size + 1, m, q, Bn, dn, Bk, dk⟩] ((w.alloc (.cells #[.int .i64 n.kind, .int .i64 n.int, .int .i64 n.scale, .string (str n.text), .slice An n.names.length cn, .slice Ak k.len ck] 25)).alloc (.cells #[.int .i64 m.kind, .int .i64 m.int, .int .i64 m.scale, .string (str m.text), .slice Bn m.names.length dn, .slice Bk q.len dk] 25)) := by
    have := (St.box_new (St.box_new (St.nil w) hv) hu)
    simpa [ncells] using this
  have ST : St w [⟨w.heap.size, n, k, An, cn, Ak, ck⟩, ⟨w.heap.size + 1, m, q, Bn, dn, Bk, dk⟩] (((w.alloc (.cells #[.int .i64 n.kind, .int .i64 n.int, .int .i64 n.scale, .string (str n.text), .slice An n.names.length cn, .slice Ak k.len ck] 25)).alloc (.cells #[.int .i64 m.kind, .int .i64 m.int, .int .i64 m.scale, .string (str m.text), .slice Bn m.names.length dn, .slice Bk q.len dk] 25)).alloc (.cells #[.int .i64 0, .int .i64 0, .int .i64 0, .string ⟨#[]⟩, .slice none 0 0, .slice none 0 0] 25)) := ST0.step (below_ra _ _)
  have rb : Blk (((w.alloc (.cells #[.int .i64 n.kind, .int .i64 n.int, .int .i64 n.scale, .string (str n.text), .slice An n.names.length cn, .slice Ak k.len ck] 25)).alloc (.cells #[.int .i64 m.kind, .int .i64 m.int, .int .i64 m.scale, .string (str m.text), .slice Bn m.names.length dn, .slice Bk q.len dk] 25)).alloc (.cells #[.int .i64 0, .int .i64 0, .int .i64 0, .string ⟨#[]⟩, .slice none 0 0, .slice none 0 0] 25)) (w.heap.size + 1 + 1) #[.int .i64 0, .int .i64 0, .int .i64 0, .string ⟨#[]⟩, .slice none 0 0, .slice none 0 0] 25 := by
    have := Blk.new ((w.alloc (.cells #[.int .i64 n.kind, .int .i64 n.int, .int .i64 n.scale, .string (str n.text), .slice An n.names.length cn, .slice Ak k.len ck] 25)).alloc (.cells #[.int .i64 m.kind, .int .i64 m.int, .int .i64 m.scale, .string (str m.text), .slice Bn m.names.length dn, .slice Bk q.len dk] 25)) #[.int .i64 0, .int .i64 0, .int .i64 0, .string ⟨#[]⟩, .slice none 0 0, .slice none 0 0] 25
    simpa using this
  generalize hW : (((w.alloc (.cells #[.int .i64 n.kind, .int .i64 n.int, .int .i64 n.scale, .string (str n.text), .slice An n.names.length cn, .slice Ak k.len ck] 25)).alloc (.cells #[.int .i64 m.kind, .int .i64 m.int, .int .i64 m.scale, .string (str m.text), .slice Bn m.names.length dn, .slice Bk q.len dk] 25)).alloc (.cells #[.int .i64 0, .int .i64 0, .int .i64 0, .string ⟨#[]⟩, .slice none 0 0, .slice none 0 0] 25)) = W at *
  have hA : areF (.cons n k (.cons m q .nil)) = (numB n k && numB m q) := by simp [areF]
  rw [hA] at hare
  obtain ⟨V, hV⟩ : ∃ V, (if (numB n k && numB m q) = true then ansv (leastP (vN n + vN m) 18) else ansE) = V := ⟨_, rfl⟩
  rw [hV]
  have HVV := Lib.hid hV
  clear hV
  generalize hR : (numB n k && numB m q) = R at *
  have ST1 := Lib.hid ST
  have RB := Lib.hid rb
  obtain ⟨x00, x01, x02, x03, x04, x05⟩ : Six0 W w.heap.size n An cn Ak k.len ck := ST.six 0 rfl
  obtain ⟨x10, x11, x12, x13, x14, x15⟩ : Six0 W (w.heap.size + 1) m Bn dn Bk q.len dk := ST.six 1 rfl
  have xlt : w.heap.size + 1 + 1 < W.heap.size := rb.lt
  have HSC : Hid (R = true → (isNum n ∧ k = .nil) ∧ isNum m ∧ q = .nil) := fun e => by
    rw [← hR, Bool.and_eq_true] at e
    exact ⟨numB_num hok1 e.1, numB_num hok2 e.2⟩
  clear ST ST0 rb hv hu hA hR hok1 hok2
  unfold ncells
  go_enter Tryd.func15, Tryd.ntmps15
  go_wp2_with fail
  have hkd := kids_new (Vo.kc (ST1.out.v 0 rfl) (Vo.kc (ST1.out.v 1 rfl) (show Kc W (· < W.heap.size) F.nil [] from rfl))) (fun b hb => hb) 25
  generalize hWa : W.alloc (.cells #[.int .i64 n.kind, .int .i64 n.int, .int .i64 n.scale, .string (str n.text), .slice An n.names.length cn, .slice Ak k.len ck, .int .i64 m.kind, .int .i64 m.int, .int .i64 m.scale, .string (str m.text), .slice Bn m.names.length dn, .slice Bk q.len dk] 25) = Wa
  have ba : Below W.heap.size W Wa := by rw [← hWa]; exact below_ra _ _
  have HK : Hid (Kids Wa (· < Wa.heap.size) (some ⟨W.heap.size, 0, none⟩) (.cons n k (.cons m q .nil))) := by show Kids _ _ _ _; rw [← hWa]; simpa [ncells] using hkd
  clear hkd hWa x00 x01 x02 x03 x04 x05 x10 x11 x12 x13 x14 x15
  refine ((unhide hare) _ _ HK.out).mono ?_
  rintro e w4 ⟨rfl, b4⟩
  have b4' := bseq ba b4
  have ST4 := Lib.hid (ST1.out.step b4')
  have R4 : Hid (Blk w4 (w.heap.size + 1 + 1) #[.int .i64 0, .int .i64 0, .int .i64 0, .string ⟨#[]⟩, .slice none 0 0, .slice none 0 0] 25) := RB.out.below b4' xlt
  clear ST1 HK ba b4 b4' hW hare RB xlt
  rcases R with _ | _
  · have BW : Hid (Below w.heap.size w w4) := ST4.out.1
    have HN : Hid (V = ansE) := by show _ = _; rw [← HVV.out]; rfl
    have p0 : w4.cell? ⟨w.heap.size + 1 + 1, 0, none⟩ = some (.int .i64 0) := R4.out.cell 0
    have q_0 := R4.out.free 0
    have p1 : w4.cell? ⟨w.heap.size + 1 + 1, 1, none⟩ = some (.int .i64 0) := R4.out.cell 1
    have q_1 := R4.out.free 1
    have p2 : w4.cell? ⟨w.heap.size + 1 + 1, 2, none⟩ = some (.int .i64 0) := R4.out.cell 2
    have q_2 := R4.out.free 2
    have p3 : w4.cell? ⟨w.heap.size + 1 + 1, 3, none⟩ = some (.string ⟨#[]⟩) := R4.out.cell 3
    have q_3 := R4.out.free 3
    have p4 : w4.cell? ⟨w.heap.size + 1 + 1, 4, none⟩ = some (.slice none 0 0) := R4.out.cell 4
    have q_4 := R4.out.free 4
    have p5 : w4.cell? ⟨w.heap.size + 1 + 1, 5, none⟩ = some (.slice none 0 0) := R4.out.cell 5
    have q_5 := R4.out.free 5
    go_wp2_with fail
    exact ret6 Tryd.results15 rfl rfl R4.out (by omega) BW.out (by rw [HN.out]; rfl)
  · obtain ⟨⟨hn, rfl⟩, hm, rfl⟩ := HSC.out rfl
    have sn := hn.scale_le
    have sm := hm.scale_le
    obtain ⟨s1, s2, _⟩ := sn
    obtain ⟨t1, t2, _⟩ := sm
    obtain ⟨x00, x01, x02, x03, x04, x05⟩ : Six0 w4 w.heap.size n An cn Ak F.nil.len ck := ST4.out.six 0 rfl
    obtain ⟨x10, x11, x12, x13, x14, x15⟩ : Six0 w4 (w.heap.size + 1) m Bn dn Bk F.nil.len dk := ST4.out.six 1 rfl
    have HN := Lib.hid hn
    have HM := Lib.hid hm
    have HV : Hid (V = ansv (leastP (vN n + vN m) 18)) := by show _ = _; rw [← HVV.out]; rfl
    clear hn hm HVV
    go_upto_region 4 with fail
    have HS := Lib.hid (And.intro (And.intro s1 s2) (And.intro t1 t2))
    obtain ⟨c, hc⟩ : ∃ c : Int, max n.scale m.scale = c := ⟨_, rfl⟩
    have c1 : n.scale ≤ c := by omega
    have c2 : m.scale ≤ c := by omega
    have c3 : c ≤ 18 := by omega
    rw [hc]
    clear hc
    obtain ⟨O1, hw1, hl1, ho1⟩ := of_wide n.int HN.out.2.2.1 (c - n.scale) (by omega) (by omega)
    obtain ⟨O2, hw2, hl2, ho2⟩ := of_wide m.int HM.out.2.2.1 (c - m.scale) (by omega) (by omega)
    have HP : Hid (∀ w : World, Calls Tryd.prog 37 #[O1, O2] w (fun e w' => ∃ z, e = .returned z ∧ WideIs z (n.int * 10 ^ (c - n.scale).toNat + m.int * 10 ^ (c - m.scale).toNat) ∧ Below w.heap.size w w')) := fun w => plus_any O1 O2 _ _ hw1 hw2 hl1 hl2 w
    have HL : Hid (∀ (w : World) (z : Value), WideIs z (n.int * 10 ^ (c - n.scale).toNat + m.int * 10 ^ (c - m.scale).toNat) → Calls Tryd.prog 32 #[z, .int .i64 c] w (Ret V w)) := fun w z hz => by
      have h := least_any z _ hz c.toNat (by omega) w
      have h2 := leastP_two HN.out HM.out 1 1 c.toNat (by omega) (by omega) (by omega)
      rw [Int.one_mul, Int.one_mul, Int.one_mul, Int.one_mul] at h2
      rw [show (c - n.scale).toNat = c.toNat - n.scale.toNat from by omega, show (c - m.scale).toNat = c.toNat - m.scale.toNat from by omega, h2, show ((c.toNat : Nat) : Int) = c from by omega] at h
      rw [HV.out]
      exact h
    have HO1 : Hid (∀ w, Calls Tryd.prog 31 #[.int .i64 n.int, .int .i64 (IntKind.i64.wrap (c - n.scale))] w (Ret O1 w)) := by show ∀ w, _; rw [i64w (by omega) (by omega)]; exact ho1
    have HO2 : Hid (∀ w, Calls Tryd.prog 31 #[.int .i64 m.int, .int .i64 (IntKind.i64.wrap (c - m.scale))] w (Ret O2 w)) := by show ∀ w, _; rw [i64w (by omega) (by omega)]; exact ho2
    obtain ⟨x0, x1, x2, xs, ee, hform⟩ := ansv_form (leastP (vN n + vN m) 18)
    rw [hform] at HV
    rw [HV.out] at HL
    clear hw1 hw2 hl1 hl2 ho1 ho2 hform x00 x01 x02 x03 x04 x05 x10 x11 x12 x13 x14 x15 HSC
    have ST_v0 : Hid (St w [⟨w.heap.size, n, .nil, An, cn, Ak, ck⟩, ⟨w.heap.size + 1, m, .nil, Bn, dn, Bk, dk⟩] w4.drew) := ST4.out.drew
    have R_v0 : Hid (Blk w4.drew (w.heap.size + 1 + 1) #[.int .i64 0, .int .i64 0, .int .i64 0, .string ⟨#[]⟩, .slice none 0 0, .slice none 0 0] 25) := R4.out
    have y1_v0 : w4.drew.cell? ⟨w.heap.size, 1, none⟩ = some (.int .i64 n.int) := (ST_v0.out.six 0 rfl).2.1
    have y2_v0 : w4.drew.cell? ⟨w.heap.size, 2, none⟩ = some (.int .i64 n.scale) := (ST_v0.out.six 0 rfl).2.2.1
    have y3_v0 : w4.drew.cell? ⟨w.heap.size + 1, 1, none⟩ = some (.int .i64 m.int) := (ST_v0.out.six 1 rfl).2.1
    have y4_v0 : w4.drew.cell? ⟨w.heap.size + 1, 2, none⟩ = some (.int .i64 m.scale) := (ST_v0.out.six 1 rfl).2.2.1
    refine wp_region_held_drew (S := fun w' => w'.cell? ⟨w.heap.size, 1, none⟩ = some (.int .i64 n.int) ∧ w'.cell? ⟨w.heap.size, 2, none⟩ = some (.int .i64 n.scale) ∧ w'.cell? ⟨w.heap.size + 1, 1, none⟩ = some (.int .i64 m.int) ∧ w'.cell? ⟨w.heap.size + 1, 2, none⟩ = some (.int .i64 m.scale)) (by kernel_rfl) (⟨y1_v0, y2_v0, y3_v0, y4_v0⟩) (fun hHeld => ?_)
    refine wpAnyH_take (i := 0) (oi := { dst := some 18, op := Go.Op.fieldAddr 25 (Go.Operand.tmp 2) 1, type := 0, pos := "decimal.go:108", after := #[], guard := none }) (v := ?_) rfl (by kernel_rfl) (by kernel_rfl) (by kernel_rfl) (fun _ _ _ h => h) (Or.inl ⟨by rfl, ?_⟩) (by assumption) ?_
    rotate_left
    · (intro w hSw; (try dsimp only at hSw); go_simp; try with_reducible rfl)
    try simp only [Act.put, List.setIfInBounds_toArray, List.set_cons_zero, List.set_cons_succ]
    refine wpAnyH_take (i := 1) (oi := { dst := some 19, op := Go.Op.load 3 (Go.Operand.tmp 18), type := 3, pos := "decimal.go:108", after := #[{ on := 0, ground := Go.Ground.data }], guard := none }) (v := ?_) rfl (by kernel_rfl) (by kernel_rfl) (by kernel_rfl) (fun _ _ _ h => h) (Or.inl ⟨by rfl, ?_⟩) (by assumption) ?_
    rotate_left
    · (intro w hSw; (try dsimp only at hSw); go_simp; try with_reducible rfl)
    try simp only [Act.put, List.setIfInBounds_toArray, List.set_cons_zero, List.set_cons_succ]
    refine wpAnyH_take (i := 2) (oi := { dst := some 20, op := Go.Op.move (Go.Operand.tmp 6), type := 3, pos := "decimal.go:108", after := #[], guard := none }) (v := ?_) rfl (by kernel_rfl) (by kernel_rfl) (by kernel_rfl) (fun _ _ _ h => h) (Or.inl ⟨by rfl, ?_⟩) (by assumption) ?_
    rotate_left
    · (intro w hSw; (try dsimp only at hSw); go_simp; try with_reducible rfl)
    try simp only [Act.put, List.setIfInBounds_toArray, List.set_cons_zero, List.set_cons_succ]
    refine wpAnyH_take (i := 3) (oi := { dst := some 21, op := Go.Op.fieldAddr 25 (Go.Operand.tmp 2) 2, type := 0, pos := "decimal.go:108", after := #[], guard := none }) (v := ?_) rfl (by kernel_rfl) (by kernel_rfl) (by kernel_rfl) (fun _ _ _ h => h) (Or.inl ⟨by rfl, ?_⟩) (by assumption) ?_
    rotate_left
    · (intro w hSw; (try dsimp only at hSw); go_simp; try with_reducible rfl)
    try simp only [Act.put, List.setIfInBounds_toArray, List.set_cons_zero, List.set_cons_succ]
    refine wpAnyH_take (i := 4) (oi := { dst := some 22, op := Go.Op.load 3 (Go.Operand.tmp 21), type := 3, pos := "decimal.go:108", after := #[{ on := 3, ground := Go.Ground.data }], guard := none }) (v := ?_) rfl (by kernel_rfl) (by kernel_rfl) (by kernel_rfl) (fun _ _ _ h => h) (Or.inl ⟨by rfl, ?_⟩) (by assumption) ?_
    rotate_left
    · (intro w hSw; (try dsimp only at hSw); go_simp; try with_reducible rfl)
    try simp only [Act.put, List.setIfInBounds_toArray, List.set_cons_zero, List.set_cons_succ]
    refine wpAnyH_take (i := 5) (oi := { dst := some 23, op := Go.Op.binOp Go.BinOp.sub 3 (Go.Operand.tmp 20) (Go.Operand.tmp 22) 3, type := 3, pos := "decimal.go:108", after := #[{ on := 2, ground := Go.Ground.data }, { on := 4, ground := Go.Ground.data }], guard := none }) (v := ?_) rfl (by kernel_rfl) (by kernel_rfl) (by kernel_rfl) (fun _ _ _ h => h) (Or.inl ⟨by rfl, ?_⟩) (by assumption) ?_
    rotate_left
    · (intro w hSw; (try dsimp only at hSw); go_simp; try with_reducible rfl)
    try simp only [Act.put, List.setIfInBounds_toArray, List.set_cons_zero, List.set_cons_succ]
    refine wpAnyH_take (i := 7) (oi := { dst := some 25, op := Go.Op.fieldAddr 25 (Go.Operand.tmp 3) 1, type := 0, pos := "decimal.go:108", after := #[], guard := none }) (v := ?_) rfl (by kernel_rfl) (by kernel_rfl) (by kernel_rfl) (fun _ _ _ h => h) (Or.inl ⟨by rfl, ?_⟩) (by assumption) ?_
    rotate_left
    · (intro w hSw; (try dsimp only at hSw); go_simp; try with_reducible rfl)
    try simp only [Act.put, List.setIfInBounds_toArray, List.set_cons_zero, List.set_cons_succ]
    refine wpAnyH_take (i := 8) (oi := { dst := some 26, op := Go.Op.load 3 (Go.Operand.tmp 25), type := 3, pos := "decimal.go:108", after := #[{ on := 7, ground := Go.Ground.data }], guard := none }) (v := ?_) rfl (by kernel_rfl) (by kernel_rfl) (by kernel_rfl) (fun _ _ _ h => h) (Or.inl ⟨by rfl, ?_⟩) (by assumption) ?_
    rotate_left
    · (intro w hSw; (try dsimp only at hSw); go_simp; try with_reducible rfl)
    try simp only [Act.put, List.setIfInBounds_toArray, List.set_cons_zero, List.set_cons_succ]
    refine wpAnyH_take (i := 9) (oi := { dst := some 27, op := Go.Op.move (Go.Operand.tmp 6), type := 3, pos := "decimal.go:108", after := #[], guard := none }) (v := ?_) rfl (by kernel_rfl) (by kernel_rfl) (by kernel_rfl) (fun _ _ _ h => h) (Or.inl ⟨by rfl, ?_⟩) (by assumption) ?_
    rotate_left
    · (intro w hSw; (try dsimp only at hSw); go_simp; try with_reducible rfl)
    try simp only [Act.put, List.setIfInBounds_toArray, List.set_cons_zero, List.set_cons_succ]
    refine wpAnyH_take (i := 10) (oi := { dst := some 28, op := Go.Op.fieldAddr 25 (Go.Operand.tmp 3) 2, type := 0, pos := "decimal.go:108", after := #[], guard := none }) (v := ?_) rfl (by kernel_rfl) (by kernel_rfl) (by kernel_rfl) (fun _ _ _ h => h) (Or.inl ⟨by rfl, ?_⟩) (by assumption) ?_
    rotate_left
    · (intro w hSw; (try dsimp only at hSw); go_simp; try with_reducible rfl)
    try simp only [Act.put, List.setIfInBounds_toArray, List.set_cons_zero, List.set_cons_succ]
    refine wpAnyH_take (i := 11) (oi := { dst := some 29, op := Go.Op.load 3 (Go.Operand.tmp 28), type := 3, pos := "decimal.go:108", after := #[{ on := 10, ground := Go.Ground.data }], guard := none }) (v := ?_) rfl (by kernel_rfl) (by kernel_rfl) (by kernel_rfl) (fun _ _ _ h => h) (Or.inl ⟨by rfl, ?_⟩) (by assumption) ?_
    rotate_left
    · (intro w hSw; (try dsimp only at hSw); go_simp; try with_reducible rfl)
    try simp only [Act.put, List.setIfInBounds_toArray, List.set_cons_zero, List.set_cons_succ]
    refine wpAnyH_take (i := 12) (oi := { dst := some 30, op := Go.Op.binOp Go.BinOp.sub 3 (Go.Operand.tmp 27) (Go.Operand.tmp 29) 3, type := 3, pos := "decimal.go:108", after := #[{ on := 9, ground := Go.Ground.data }, { on := 11, ground := Go.Ground.data }], guard := none }) (v := ?_) rfl (by kernel_rfl) (by kernel_rfl) (by kernel_rfl) (fun _ _ _ h => h) (Or.inl ⟨by rfl, ?_⟩) (by assumption) ?_
    rotate_left
    · (intro w hSw; (try dsimp only at hSw); go_simp; try with_reducible rfl)
    try simp only [Act.put, List.setIfInBounds_toArray, List.set_cons_zero, List.set_cons_succ]
    refine wpAnyH_take (i := 15) (oi := { dst := some 33, op := Go.Op.move (Go.Operand.tmp 6), type := 3, pos := "decimal.go:108", after := #[], guard := none }) (v := ?_) rfl (by kernel_rfl) (by kernel_rfl) (by kernel_rfl) (fun _ _ _ h => h) (Or.inl ⟨by rfl, ?_⟩) (by assumption) ?_
    rotate_left
    · (intro w hSw; (try dsimp only at hSw); go_simp; try with_reducible rfl)
    try simp only [Act.put, List.setIfInBounds_toArray, List.set_cons_zero, List.set_cons_succ]
    refine wpAnyH_ready (rs := [6]) (by kernel_rfl) (by simp) ?_
    refine AllReadyH.cons (o := { dst := some 24, op := Go.Op.call { callee := Go.Callee.value (Go.Operand.func 31), args := #[Go.Operand.tmp 19, Go.Operand.tmp 23], argTypes := #[3, 3] }, type := 55, pos := "decimal.go:108", after := #[{ on := 1, ground := Go.Ground.data }, { on := 5, ground := Go.Ground.data }], guard := none }) rfl (fun K hK => ?_) AllReadyH.nil
    go_simp
    refine (HO1.out _).mono ?_
    rintro e v1 ⟨rfl, b_v1⟩
    have ST_v1 : Hid (St w [⟨w.heap.size, n, .nil, An, cn, Ak, ck⟩, ⟨w.heap.size + 1, m, .nil, Bn, dn, Bk, dk⟩] v1) := ST_v0.out.step b_v1
    have R_v1 : Hid (Blk v1 (w.heap.size + 1 + 1) #[.int .i64 0, .int .i64 0, .int .i64 0, .string ⟨#[]⟩, .slice none 0 0, .slice none 0 0] 25) := R_v0.out.below b_v1 R_v0.out.lt
    have y1_v1 : v1.cell? ⟨w.heap.size, 1, none⟩ = some (.int .i64 n.int) := (ST_v1.out.six 0 rfl).2.1
    have y2_v1 : v1.cell? ⟨w.heap.size, 2, none⟩ = some (.int .i64 n.scale) := (ST_v1.out.six 0 rfl).2.2.1
    have y3_v1 : v1.cell? ⟨w.heap.size + 1, 1, none⟩ = some (.int .i64 m.int) := (ST_v1.out.six 1 rfl).2.1
    have y4_v1 : v1.cell? ⟨w.heap.size + 1, 2, none⟩ = some (.int .i64 m.scale) := (ST_v1.out.six 1 rfl).2.2.1
    go_wp2_with fail
    refine hK.out _ _ (⟨y1_v1, y2_v1, y3_v1, y4_v1⟩) (fun hHeld => ?_)
    clear hK K
    try simp only [Act.put, List.setIfInBounds_toArray, List.set_cons_zero, List.set_cons_succ]
    refine wpAnyH_ready (rs := [13]) (by kernel_rfl) (by simp) ?_
    refine AllReadyH.cons (o := { dst := some 31, op := Go.Op.call { callee := Go.Callee.value (Go.Operand.func 31), args := #[Go.Operand.tmp 26, Go.Operand.tmp 30], argTypes := #[3, 3] }, type := 55, pos := "decimal.go:108", after := #[{ on := 8, ground := Go.Ground.data }, { on := 12, ground := Go.Ground.data }, { on := 6, ground := Go.Ground.chain }], guard := none }) rfl (fun K hK => ?_) AllReadyH.nil
    go_simp
    refine (HO2.out _).mono ?_
    rintro e v2 ⟨rfl, b_v2⟩
    have ST_v2 : Hid (St w [⟨w.heap.size, n, .nil, An, cn, Ak, ck⟩, ⟨w.heap.size + 1, m, .nil, Bn, dn, Bk, dk⟩] v2) := ST_v1.out.step b_v2
    have R_v2 : Hid (Blk v2 (w.heap.size + 1 + 1) #[.int .i64 0, .int .i64 0, .int .i64 0, .string ⟨#[]⟩, .slice none 0 0, .slice none 0 0] 25) := R_v1.out.below b_v2 R_v1.out.lt
    have y1_v2 : v2.cell? ⟨w.heap.size, 1, none⟩ = some (.int .i64 n.int) := (ST_v2.out.six 0 rfl).2.1
    have y2_v2 : v2.cell? ⟨w.heap.size, 2, none⟩ = some (.int .i64 n.scale) := (ST_v2.out.six 0 rfl).2.2.1
    have y3_v2 : v2.cell? ⟨w.heap.size + 1, 1, none⟩ = some (.int .i64 m.int) := (ST_v2.out.six 1 rfl).2.1
    have y4_v2 : v2.cell? ⟨w.heap.size + 1, 2, none⟩ = some (.int .i64 m.scale) := (ST_v2.out.six 1 rfl).2.2.1
    go_wp2_with fail
    refine hK.out _ _ (⟨y1_v2, y2_v2, y3_v2, y4_v2⟩) (fun hHeld => ?_)
    clear hK K
    try simp only [Act.put, List.setIfInBounds_toArray, List.set_cons_zero, List.set_cons_succ]
    refine wpAnyH_ready (rs := [14]) (by kernel_rfl) (by simp) ?_
    refine AllReadyH.cons (o := { dst := some 32, op := Go.Op.call { callee := Go.Callee.value (Go.Operand.func 37), args := #[Go.Operand.tmp 24, Go.Operand.tmp 31], argTypes := #[55, 55] }, type := 55, pos := "decimal.go:108", after := #[{ on := 6, ground := Go.Ground.data }, { on := 13, ground := Go.Ground.data }, { on := 13, ground := Go.Ground.chain }], guard := none }) rfl (fun K hK => ?_) AllReadyH.nil
    go_simp
    refine (HP.out _).mono ?_
    rintro e v3 ⟨z, rfl, hz, b_v3⟩
    have ST_v3 : Hid (St w [⟨w.heap.size, n, .nil, An, cn, Ak, ck⟩, ⟨w.heap.size + 1, m, .nil, Bn, dn, Bk, dk⟩] v3) := ST_v2.out.step b_v3
    have R_v3 : Hid (Blk v3 (w.heap.size + 1 + 1) #[.int .i64 0, .int .i64 0, .int .i64 0, .string ⟨#[]⟩, .slice none 0 0, .slice none 0 0] 25) := R_v2.out.below b_v3 R_v2.out.lt
    have y1_v3 : v3.cell? ⟨w.heap.size, 1, none⟩ = some (.int .i64 n.int) := (ST_v3.out.six 0 rfl).2.1
    have y2_v3 : v3.cell? ⟨w.heap.size, 2, none⟩ = some (.int .i64 n.scale) := (ST_v3.out.six 0 rfl).2.2.1
    have y3_v3 : v3.cell? ⟨w.heap.size + 1, 1, none⟩ = some (.int .i64 m.int) := (ST_v3.out.six 1 rfl).2.1
    have y4_v3 : v3.cell? ⟨w.heap.size + 1, 2, none⟩ = some (.int .i64 m.scale) := (ST_v3.out.six 1 rfl).2.2.1
    have HZ := Lib.hid hz
    clear hz
    go_wp2_with fail
    refine hK.out _ _ (⟨y1_v3, y2_v3, y3_v3, y4_v3⟩) (fun hHeld => ?_)
    clear hK K
    try simp only [Act.put, List.setIfInBounds_toArray, List.set_cons_zero, List.set_cons_succ]
    refine wpAnyH_ready (rs := [16]) (by kernel_rfl) (by simp) ?_
    refine AllReadyH.cons (o := { dst := some 34, op := Go.Op.call { callee := Go.Callee.value (Go.Operand.func 32), args := #[Go.Operand.tmp 32, Go.Operand.tmp 33], argTypes := #[55, 3] }, type := 27, pos := "decimal.go:108", after := #[{ on := 14, ground := Go.Ground.data }, { on := 15, ground := Go.Ground.data }, { on := 14, ground := Go.Ground.chain }], guard := none }) rfl (fun K hK => ?_) AllReadyH.nil
    go_simp
    refine (HL.out _ _ HZ.out).mono ?_
    rintro e v4 ⟨rfl, b_v4⟩
    have ST_v4 : Hid (St w [⟨w.heap.size, n, .nil, An, cn, Ak, ck⟩, ⟨w.heap.size + 1, m, .nil, Bn, dn, Bk, dk⟩] v4) := ST_v3.out.step b_v4
    have R_v4 : Hid (Blk v4 (w.heap.size + 1 + 1) #[.int .i64 0, .int .i64 0, .int .i64 0, .string ⟨#[]⟩, .slice none 0 0, .slice none 0 0] 25) := R_v3.out.below b_v4 R_v3.out.lt
    have y1_v4 : v4.cell? ⟨w.heap.size, 1, none⟩ = some (.int .i64 n.int) := (ST_v4.out.six 0 rfl).2.1
    have y2_v4 : v4.cell? ⟨w.heap.size, 2, none⟩ = some (.int .i64 n.scale) := (ST_v4.out.six 0 rfl).2.2.1
    have y3_v4 : v4.cell? ⟨w.heap.size + 1, 1, none⟩ = some (.int .i64 m.int) := (ST_v4.out.six 1 rfl).2.1
    have y4_v4 : v4.cell? ⟨w.heap.size + 1, 2, none⟩ = some (.int .i64 m.scale) := (ST_v4.out.six 1 rfl).2.2.1
    clear HZ
    go_wp2_with fail
    refine hK.out _ _ (⟨y1_v4, y2_v4, y3_v4, y4_v4⟩) (fun hHeld => ?_)
    clear hK K
    try simp only [Act.put, List.setIfInBounds_toArray, List.set_cons_zero, List.set_cons_succ]
    refine wpAnyH_take (i := 17) (oi := { dst := some 35, op := Go.Op.extract (Go.Operand.tmp 34) 0, type := 25, pos := "decimal.go:108", after := #[{ on := 16, ground := Go.Ground.data }], guard := none }) (v := ?_) rfl (by kernel_rfl) (by kernel_rfl) (by kernel_rfl) (fun _ _ _ h => h) (Or.inl ⟨by rfl, ?_⟩) (by assumption) ?_
    rotate_left
    · (intro w hSw; (try dsimp only at hSw); go_simp; try with_reducible rfl)
    try simp only [Act.put, List.setIfInBounds_toArray, List.set_cons_zero, List.set_cons_succ]
    refine wpAnyH_take (i := 18) (oi := { dst := some 36, op := Go.Op.extract (Go.Operand.tmp 34) 1, type := 26, pos := "decimal.go:108", after := #[{ on := 16, ground := Go.Ground.data }], guard := none }) (v := ?_) rfl (by kernel_rfl) (by kernel_rfl) (by kernel_rfl) (fun _ _ _ h => h) (Or.inl ⟨by rfl, ?_⟩) (by assumption) ?_
    rotate_left
    · (intro w hSw; (try dsimp only at hSw); go_simp; try with_reducible rfl)
    try simp only [Act.put, List.setIfInBounds_toArray, List.set_cons_zero, List.set_cons_succ]
    refine wpAnyH_ready (rs := [19]) (by kernel_rfl) (by simp) ?_
    refine AllReadyH.cons (o := { dst := none, op := Go.Op.store 25 (Go.Operand.tmp 4) (Go.Operand.tmp 35), type := 0, pos := "decimal.go:108", after := #[{ on := 17, ground := Go.Ground.data }, { on := 16, ground := Go.Ground.chain }, { on := 0, ground := Go.Ground.phase }, { on := 1, ground := Go.Ground.phase }, { on := 2, ground := Go.Ground.phase }, { on := 3, ground := Go.Ground.phase }, { on := 4, ground := Go.Ground.phase }, { on := 5, ground := Go.Ground.phase }, { on := 6, ground := Go.Ground.phase }, { on := 7, ground := Go.Ground.phase }, { on := 8, ground := Go.Ground.phase }, { on := 9, ground := Go.Ground.phase }, { on := 10, ground := Go.Ground.phase }, { on := 11, ground := Go.Ground.phase }, { on := 12, ground := Go.Ground.phase }, { on := 13, ground := Go.Ground.phase }, { on := 14, ground := Go.Ground.phase }, { on := 15, ground := Go.Ground.phase }, { on := 16, ground := Go.Ground.phase }, { on := 17, ground := Go.Ground.phase }, { on := 18, ground := Go.Ground.phase }], guard := none }) rfl (fun K hK => ?_) AllReadyH.nil
    have p0 : v4.cell? ⟨w.heap.size + 1 + 1, 0, none⟩ = some (.int .i64 0) := R_v4.out.cell 0
    have q_0 := R_v4.out.free 0
    have p1 : v4.cell? ⟨w.heap.size + 1 + 1, 1, none⟩ = some (.int .i64 0) := R_v4.out.cell 1
    have q_1 := R_v4.out.free 1
    have p2 : v4.cell? ⟨w.heap.size + 1 + 1, 2, none⟩ = some (.int .i64 0) := R_v4.out.cell 2
    have q_2 := R_v4.out.free 2
    have p3 : v4.cell? ⟨w.heap.size + 1 + 1, 3, none⟩ = some (.string ⟨#[]⟩) := R_v4.out.cell 3
    have q_3 := R_v4.out.free 3
    have p4 : v4.cell? ⟨w.heap.size + 1 + 1, 4, none⟩ = some (.slice none 0 0) := R_v4.out.cell 4
    have q_4 := R_v4.out.free 4
    have p5 : v4.cell? ⟨w.heap.size + 1 + 1, 5, none⟩ = some (.slice none 0 0) := R_v4.out.cell 5
    have q_5 := R_v4.out.free 5
    go_simp
    obtain ⟨wS, hwS⟩ : ∃ wS, ((((((v4.setCell ⟨w.heap.size + 1 + 1, 0, none⟩ (.int .i64 x0)).setCell ⟨w.heap.size + 1 + 1, 1, none⟩ (.int .i64 x1)).setCell ⟨w.heap.size + 1 + 1, 2, none⟩ (.int .i64 x2)).setCell ⟨w.heap.size + 1 + 1, 3, none⟩ (.string xs)).setCell ⟨w.heap.size + 1 + 1, 4, none⟩ (.slice none 0 0)).setCell ⟨w.heap.size + 1 + 1, 5, none⟩ (.slice none 0 0)) = wS := ⟨_, rfl⟩
    rw [hwS]
    have kS1 : Blk wS w.heap.size (ncells n An cn Ak F.nil.len ck).toArray 25 := by rw [← hwS]; exact (((((((show Blk v4 w.heap.size (ncells n An cn Ak F.nil.len ck).toArray 25 from (ST_v4.out.box 0 rfl).1).set_other 0 _ (by omega)).set_other 1 _ (by omega)).set_other 2 _ (by omega)).set_other 3 _ (by omega)).set_other 4 _ (by omega)).set_other 5 _ (by omega))
    have kS2 : Blk wS (w.heap.size + 1) (ncells m Bn dn Bk F.nil.len dk).toArray 25 := by rw [← hwS]; exact (((((((show Blk v4 (w.heap.size + 1) (ncells m Bn dn Bk F.nil.len dk).toArray 25 from (ST_v4.out.box 1 rfl).1).set_other 0 _ (by omega)).set_other 1 _ (by omega)).set_other 2 _ (by omega)).set_other 3 _ (by omega)).set_other 4 _ (by omega)).set_other 5 _ (by omega))
    have y1_wS : wS.cell? ⟨w.heap.size, 1, none⟩ = some (.int .i64 n.int) := kS1.six.2.1
    have y2_wS : wS.cell? ⟨w.heap.size, 2, none⟩ = some (.int .i64 n.scale) := kS1.six.2.2.1
    have y3_wS : wS.cell? ⟨w.heap.size + 1, 1, none⟩ = some (.int .i64 m.int) := kS2.six.2.1
    have y4_wS : wS.cell? ⟨w.heap.size + 1, 2, none⟩ = some (.int .i64 m.scale) := kS2.six.2.2.1
    refine hK.out _ _ (⟨y1_wS, y2_wS, y3_wS, y4_wS⟩) (fun hHeld => ?_)
    clear hK K
    try simp only [Act.put, List.setIfInBounds_toArray, List.set_cons_zero, List.set_cons_succ]
    refine wpAnyH_take (i := 20) (oi := { dst := some 5, op := Go.Op.assign (Go.Operand.tmp 36), type := 26, pos := "decimal.go:108", after := #[{ on := 18, ground := Go.Ground.data }, { on := 19, ground := Go.Ground.chain }, { on := 0, ground := Go.Ground.phase }, { on := 1, ground := Go.Ground.phase }, { on := 2, ground := Go.Ground.phase }, { on := 3, ground := Go.Ground.phase }, { on := 4, ground := Go.Ground.phase }, { on := 5, ground := Go.Ground.phase }, { on := 6, ground := Go.Ground.phase }, { on := 7, ground := Go.Ground.phase }, { on := 8, ground := Go.Ground.phase }, { on := 9, ground := Go.Ground.phase }, { on := 10, ground := Go.Ground.phase }, { on := 11, ground := Go.Ground.phase }, { on := 12, ground := Go.Ground.phase }, { on := 13, ground := Go.Ground.phase }, { on := 14, ground := Go.Ground.phase }, { on := 15, ground := Go.Ground.phase }, { on := 16, ground := Go.Ground.phase }, { on := 17, ground := Go.Ground.phase }, { on := 18, ground := Go.Ground.phase }, { on := 19, ground := Go.Ground.phase }], guard := none }) (v := ?_) rfl (by kernel_rfl) (by kernel_rfl) (by kernel_rfl) (fun _ _ _ h => h) (Or.inl ⟨by rfl, ?_⟩) (by assumption) ?_
    rotate_left
    · (intro w hSw; (try dsimp only at hSw); go_simp; try with_reducible rfl)
    try simp only [Act.put, List.setIfInBounds_toArray, List.set_cons_zero, List.set_cons_succ]
    refine wpAnyH_done (by kernel_rfl) ?_ _
    all_goals (
      rw [← hwS]
      go_wp2_with fail
      exact ret6 Tryd.results15 rfl rfl R_v4.out (by omega) ST_v4.out.1 HV.out)
end Go.Proofs.YtfcbcbpnlnkpcaaDoor

/- does: Append, in both. (Printed by gen/does3.py.) -/
import Derived.Test.YtcoimlenejffpaaDoes3
namespace Go.Proofs.Ytcoimlenejffpaa
set_option linter.all false
open Go.RowKit
set_option maxRecDepth 100000 in
set_option maxHeartbeats 3200000 in
theorem does_1 (base d r : Nat) (S : DS) (X : RDS) (w : World) (h : Pair w base d r S X) (hs : Sim S X) (hfew : S.E.length < 4000) (nn : Int) (a to b : List UInt8) (A : Option Addr) (c : Nat)
    (hx : StOk w base ⟨1, nn, a, to, b, A, c⟩) (hlen : stLen ⟨1, nn, a, to, b, A, c⟩ ≤ 8000)  :
    Calls Try.prog 26 #[.pointer (some ⟨d, 0, none⟩), .pointer (some ⟨r, 0, none⟩), .agg #[.int .i64 1, .int .i64 nn, .string (str a), .string (str to), .slice A b.length c]] w (RetDo base d r S.E.length w) := by
  obtain ⟨-, ⟨n1, n2⟩, ha, hto, ⟨hc1, hc2⟩, hb⟩ := hx
  simp only at n1 n2 ha hto hc1 hc2 hb
  unfold stLen at hlen
  simp only at hlen
  obtain ⟨W1, hW1⟩ : ∃ W1, w.alloc (.cells #[.int .i64 1, .int .i64 nn, .string (str a), .string (str to), .slice A b.length c] 49) = W1 := ⟨_, rfl⟩
  have b1 : Below w.heap.size w W1 := by rw [← hW1]; exact below_refl_alloc _ _
  have pb : Blk W1 w.heap.size #[.int .i64 1, .int .i64 nn, .string (str a), .string (str to), .slice A b.length c] 49 := by rw [← hW1]; exact Blk.new _ _ _
  have p0 : W1.cell? ⟨w.heap.size, 0, none⟩ = some (.int .i64 1) := pb.cell 0
  have p1 : W1.cell? ⟨w.heap.size, 1, none⟩ = some (.int .i64 nn) := pb.cell 1
  have p2 : W1.cell? ⟨w.heap.size, 2, none⟩ = some (.string (str a)) := pb.cell 2
  have p3 : W1.cell? ⟨w.heap.size, 3, none⟩ = some (.string (str to)) := pb.cell 3
  have p4 : W1.cell? ⟨w.heap.size, 4, none⟩ = some (.slice A b.length c) := pb.cell 4
  have HP1 : Hid (Pair W1 base d r S X) := h.below b1
  have HB1 : Hid (Below base w W1) := b1.mono h.base_le
  have hpd : w.heap.size ∉ S.bl d := fun h9 => by have := (h.hD.ge _ h9).2; omega
  have hpx : w.heap.size ∉ X.bl r := fun h9 => by have := (h.hX.ge _ h9).2; omega
  have HN := Lib.hid (And.intro hpd hpx)
  have HPB := Lib.hid pb
  have HX := Lib.hid (And.intro ha (And.intro hto (And.intro hc1 (And.intro hc2 hb))))
  have HS := Lib.hid hs
  have HW := Lib.hid (And.intro h.base_le hfew)
  clear hpd hpx pb b1 h hs ha hto hc1 hc2 hb hfew
  have hbW : Bs W1 W1.heap.size A b.length b := (HX.out.2.2.2.2.below HB1.out).more HP1.out.base_le
  have HRM := Lib.hid (roomy3_any A b.length c b W1 hbW (by omega))
  clear hbW
  go_enter Try.func26, Try.ntmps26
  go_wp2_with fail
  refine (unhide3 HRM).mono ?_
  rintro en u1 ⟨A7, c7, rfl, o7, b7, h1, h2⟩
  obtain ⟨q, u, rfl, hq0, hql, _, _, _⟩ := own_at o7 (k := 0) (by omega)
  have HPU : Hid (Pair u1 base d r S X) := HP1.out.below b7
  have HBU : Hid (Below base w u1) := HB1.out.trans (b7.mono HP1.out.base_le)
  have hpl1 : w.heap.size < u1.heap.size := Nat.lt_of_lt_of_le HPB.out.lt b7.size
  have p21 : u1.cell? ⟨w.heap.size, 2, none⟩ = some (.string (str a)) := (b7.cell (p := ⟨w.heap.size, 2, none⟩) HPB.out.lt).trans p2
  have p41 : u1.cell? ⟨w.heap.size, 4, none⟩ = some (.slice A b.length c) := (b7.cell (p := ⟨w.heap.size, 4, none⟩) HPB.out.lt).trans p4
  have HQ : Hid (q ∉ S.bl d ∧ q ∉ X.bl r ∧ base ≤ q) := ⟨fun h9 => by have := (HP1.out.hD.ge q h9).2; omega, fun h9 => by have := (HP1.out.hX.ge q h9).2; omega, by have := HP1.out.base_le; omega⟩
  have HO := Lib.hid o7
  have q1 : (b.length : Int) ≤ (c7 : Int) := by omega
  clear o7 b7 HRM p0 p1 p2 p3 p4 hW1 hq0
  go_wp2_with fail
  refine wp_region_held_drew (S := fun w' => w'.cell? ⟨w.heap.size, 2, none⟩ = some (.string (str a)) ∧ w'.cell? ⟨w.heap.size, 4, none⟩ = some (.slice A b.length c)) (by kernel_rfl) (⟨p21, p41⟩) (fun hHeld => ?_)
  obtain ⟨w2, hw2⟩ : ∃ w2, u1.drew = w2 := ⟨_, rfl⟩
  rw [hw2] at hHeld ⊢
  have b12 : Below u1.heap.size u1 w2 := by rw [← hw2]; exact ⟨rfl, rfl, rfl, Nat.le_refl _, fun _ _ => rfl⟩
  have HP2 : Hid (Pair w2 base d r S X) := HPU.out.below b12
  have HB2 : Hid (Below base w w2) := HBU.out.trans (b12.mono HPU.out.base_le)
  have hpl : w.heap.size < w2.heap.size := Nat.lt_of_lt_of_le hpl1 b12.size
  have hql2 : q < w2.heap.size := Nat.lt_of_lt_of_le hql b12.size
  have HO2 : Hid (w2.ownsRow W1.heap.size 5 1 (.slice (some ⟨q, 0, none⟩) (b.length + 1) c7) (b.length + 1) ((b ++ [171]).map bv)) := own_block HO.out (fun i hi => by injection hi with hi; subst hi; exact b12.block _ hql)
  have hbs2 : Bs w2 w2.heap.size (some ⟨q, 0, none⟩) b.length b := by
    have h9 := Bs.take (Rd.of_own HO2.out) (k := b.length) (by omega)
    rwa [List.take_left' rfl] at h9
  have HC1 := Lib.hid (append_any base d S w2 HP2.out.hD a b HX.out.1 (some ⟨q, 0, none⟩) b.length c7 hbs2 (by omega) (by have := HW.out.2; omega))
  clear hw2 b12 hbs2 HO
  refine wpAnyH_take (i := 0) (oi := { dst := Option.some 46, op := Go.Op.move (Go.Operand.tmp 0), type := 25, pos := "law.go:95", after := #[], guard := Option.none }) (v := ?_) rfl (by kernel_rfl) (by kernel_rfl) (by kernel_rfl) (fun _ _ _ h => h) (Or.inl ⟨by rfl, ?_⟩) (by assumption) ?_
  rotate_left
  · (intro w hSw; (try dsimp only at hSw); go_simp; try with_reducible rfl)
  try simp only [Act.put, List.setIfInBounds_toArray, List.set_cons_zero, List.set_cons_succ]
  refine wpAnyH_take (i := 1) (oi := { dst := Option.some 47, op := Go.Op.fieldAddr 49 (Go.Operand.tmp 5) 2, type := 0, pos := "law.go:95", after := #[], guard := Option.none }) (v := ?_) rfl (by kernel_rfl) (by kernel_rfl) (by kernel_rfl) (fun _ _ _ h => h) (Or.inl ⟨by rfl, ?_⟩) (by assumption) ?_
  rotate_left
  · (intro w hSw; (try dsimp only at hSw); go_simp; try with_reducible rfl)
  try simp only [Act.put, List.setIfInBounds_toArray, List.set_cons_zero, List.set_cons_succ]
  refine wpAnyH_take (i := 2) (oi := { dst := Option.some 48, op := Go.Op.load 9 (Go.Operand.tmp 47), type := 9, pos := "law.go:95", after := #[{ on := 1, ground := Go.Ground.data }], guard := Option.none }) (v := ?_) rfl (by kernel_rfl) (by kernel_rfl) (by kernel_rfl) (fun _ _ _ h => h) (Or.inl ⟨by rfl, ?_⟩) (by assumption) ?_
  rotate_left
  · (intro w hSw; (try dsimp only at hSw); go_simp; try with_reducible rfl)
  try simp only [Act.put, List.setIfInBounds_toArray, List.set_cons_zero, List.set_cons_succ]
  refine wpAnyH_take (i := 3) (oi := { dst := Option.some 49, op := Go.Op.move (Go.Operand.tmp 7), type := 23, pos := "law.go:95", after := #[], guard := Option.none }) (v := ?_) rfl (by kernel_rfl) (by kernel_rfl) (by kernel_rfl) (fun _ _ _ h => h) (Or.inl ⟨by rfl, ?_⟩) (by assumption) ?_
  rotate_left
  · (intro w hSw; (try dsimp only at hSw); go_simp; try with_reducible rfl)
  try simp only [Act.put, List.setIfInBounds_toArray, List.set_cons_zero, List.set_cons_succ]
  refine wpAnyH_take (i := 4) (oi := { dst := Option.some 50, op := Go.Op.fieldAddr 49 (Go.Operand.tmp 5) 4, type := 0, pos := "law.go:95", after := #[], guard := Option.none }) (v := ?_) rfl (by kernel_rfl) (by kernel_rfl) (by kernel_rfl) (fun _ _ _ h => h) (Or.inl ⟨by rfl, ?_⟩) (by assumption) ?_
  rotate_left
  · (intro w hSw; (try dsimp only at hSw); go_simp; try with_reducible rfl)
  try simp only [Act.put, List.setIfInBounds_toArray, List.set_cons_zero, List.set_cons_succ]
  refine wpAnyH_take (i := 5) (oi := { dst := Option.some 51, op := Go.Op.load 23 (Go.Operand.tmp 50), type := 23, pos := "law.go:95", after := #[{ on := 4, ground := Go.Ground.data }], guard := Option.none }) (v := ?_) rfl (by kernel_rfl) (by kernel_rfl) (by kernel_rfl) (fun _ _ _ h => h) (Or.inl ⟨by rfl, ?_⟩) (by assumption) ?_
  rotate_left
  · (intro w hSw; (try dsimp only at hSw); go_simp; try with_reducible rfl)
  try simp only [Act.put, List.setIfInBounds_toArray, List.set_cons_zero, List.set_cons_succ]
  refine wpAnyH_take (i := 6) (oi := { dst := Option.some 52, op := Go.Op.call { callee := Go.Callee.builtin Go.Builtin.len, args := #[Go.Operand.tmp 51], argTypes := #[23] }, type := 3, pos := "law.go:95", after := #[{ on := 5, ground := Go.Ground.data }], guard := Option.none }) (v := ?_) rfl (by kernel_rfl) (by kernel_rfl) (by kernel_rfl) (fun _ _ _ h => h) (Or.inl ⟨by rfl, ?_⟩) (by assumption) ?_
  rotate_left
  · (intro w hSw; (try dsimp only at hSw); go_simp; try with_reducible rfl)
  try simp only [Act.put, List.setIfInBounds_toArray, List.set_cons_zero, List.set_cons_succ]
  refine wpAnyH_take (i := 7) (oi := { dst := Option.some 53, op := Go.Op.slice 23 (Go.Operand.tmp 49) Option.none (Option.some (Go.Operand.tmp 52)) Option.none, type := 23, pos := "law.go:95", after := #[{ on := 3, ground := Go.Ground.data }, { on := 6, ground := Go.Ground.data }], guard := Option.none }) (v := ?_) rfl (by kernel_rfl) (by kernel_rfl) (by kernel_rfl) (fun _ _ _ h => h) (Or.inl ⟨by rfl, ?_⟩) (by assumption) ?_
  rotate_left
  · (intro w hSw; (try dsimp only at hSw); go_simp; try with_reducible rfl)
  try simp only [Act.put, List.setIfInBounds_toArray, List.set_cons_zero, List.set_cons_succ]
  refine wpAnyH_take (i := 9) (oi := { dst := Option.some 55, op := Go.Op.move (Go.Operand.tmp 1), type := 45, pos := "law.go:95", after := #[], guard := Option.none }) (v := ?_) rfl (by kernel_rfl) (by kernel_rfl) (by kernel_rfl) (fun _ _ _ h => h) (Or.inl ⟨by rfl, ?_⟩) (by assumption) ?_
  rotate_left
  · (intro w hSw; (try dsimp only at hSw); go_simp; try with_reducible rfl)
  try simp only [Act.put, List.setIfInBounds_toArray, List.set_cons_zero, List.set_cons_succ]
  refine wpAnyH_take (i := 10) (oi := { dst := Option.some 56, op := Go.Op.fieldAddr 49 (Go.Operand.tmp 5) 2, type := 0, pos := "law.go:95", after := #[], guard := Option.none }) (v := ?_) rfl (by kernel_rfl) (by kernel_rfl) (by kernel_rfl) (fun _ _ _ h => h) (Or.inl ⟨by rfl, ?_⟩) (by assumption) ?_
  rotate_left
  · (intro w hSw; (try dsimp only at hSw); go_simp; try with_reducible rfl)
  try simp only [Act.put, List.setIfInBounds_toArray, List.set_cons_zero, List.set_cons_succ]
  refine wpAnyH_take (i := 11) (oi := { dst := Option.some 57, op := Go.Op.load 9 (Go.Operand.tmp 56), type := 9, pos := "law.go:95", after := #[{ on := 10, ground := Go.Ground.data }], guard := Option.none }) (v := ?_) rfl (by kernel_rfl) (by kernel_rfl) (by kernel_rfl) (fun _ _ _ h => h) (Or.inl ⟨by rfl, ?_⟩) (by assumption) ?_
  rotate_left
  · (intro w hSw; (try dsimp only at hSw); go_simp; try with_reducible rfl)
  try simp only [Act.put, List.setIfInBounds_toArray, List.set_cons_zero, List.set_cons_succ]
  refine wpAnyH_take (i := 12) (oi := { dst := Option.some 58, op := Go.Op.fieldAddr 49 (Go.Operand.tmp 5) 4, type := 0, pos := "law.go:95", after := #[], guard := Option.none }) (v := ?_) rfl (by kernel_rfl) (by kernel_rfl) (by kernel_rfl) (fun _ _ _ h => h) (Or.inl ⟨by rfl, ?_⟩) (by assumption) ?_
  rotate_left
  · (intro w hSw; (try dsimp only at hSw); go_simp; try with_reducible rfl)
  try simp only [Act.put, List.setIfInBounds_toArray, List.set_cons_zero, List.set_cons_succ]
  refine wpAnyH_take (i := 13) (oi := { dst := Option.some 59, op := Go.Op.load 23 (Go.Operand.tmp 58), type := 23, pos := "law.go:95", after := #[{ on := 12, ground := Go.Ground.data }], guard := Option.none }) (v := ?_) rfl (by kernel_rfl) (by kernel_rfl) (by kernel_rfl) (fun _ _ _ h => h) (Or.inl ⟨by rfl, ?_⟩) (by assumption) ?_
  rotate_left
  · (intro w hSw; (try dsimp only at hSw); go_simp; try with_reducible rfl)
  try simp only [Act.put, List.setIfInBounds_toArray, List.set_cons_zero, List.set_cons_succ]
  refine wpAnyH_ready (rs := [8]) (by kernel_rfl) (by simp) ?_
  refine AllReadyH.cons (o := { dst := Option.some 54, op := Go.Op.call { callee := Go.Callee.value (Go.Operand.func 11), args := #[Go.Operand.tmp 46, Go.Operand.tmp 48, Go.Operand.tmp 53], argTypes := #[25, 9, 23] }, type := 26, pos := "law.go:95", after := #[{ on := 0, ground := Go.Ground.data }, { on := 2, ground := Go.Ground.data }, { on := 7, ground := Go.Ground.data }], guard := Option.none }) rfl (fun K hK => ?_) AllReadyH.nil
  go_simp
  refine (unhide3 HC1).mono ?_
  rintro en w3 ⟨c3, S', rfl, hR, hD, hT, hin⟩
  obtain ⟨hp3, hb3⟩ := HP2.out.stepD hD hT hin
  have hpqw3 : w3.heap[w.heap.size]? = w2.heap[w.heap.size]? := hT.block _ hpl HN.out.1
  have hH3 : w3.cell? ⟨w.heap.size, 2, none⟩ = some (.string (str a)) ∧ w3.cell? ⟨w.heap.size, 4, none⟩ = some (.slice A b.length c) := ⟨(World.cell?_of_block hpqw3).trans hHeld.1, (World.cell?_of_block hpqw3).trans hHeld.2⟩
  have hpl3 : w.heap.size < w3.heap.size := Nat.lt_of_lt_of_le hpl hb3.size
  have hql3 : q < w3.heap.size := Nat.lt_of_lt_of_le hql2 hb3.size
  have HB3 : Hid (Below base w w3) := HB2.out.trans hb3
  have HC2 := Lib.hid (rappend_any base r X w3 hp3.hX a HX.out.1 A b.length c b (HX.out.2.2.2.2.below HB3.out) (by omega) (by have h9 := HS.out.len; have h8 := HW.out.2; omega))
  have HP3 := Lib.hid hp3
  have HR3 := Lib.hid hR
  have HQ3 : Hid (q ∉ S'.bl d) := fun h9 => by
    rcases hin q h9 with h8 | h8
    · exact HQ.out.1 h8
    · omega
  have HO3 : Hid (w3.ownsRow W1.heap.size 5 1 (.slice (some ⟨q, 0, none⟩) (b.length + 1) c7) (b.length + 1) ((b ++ [171]).map bv)) := own_block HO2.out (fun i hi => by injection hi with hi; subst hi; exact hT.block _ hql2 HQ.out.1)
  clear hp3 hR hD hT hin hb3 hpqw3 HC1 HO2
  go_wp2_with fail
  refine hK.out _ _ (hH3) (fun hHeld => ?_)
  clear hK K
  try simp only [Act.put, List.setIfInBounds_toArray, List.set_cons_zero, List.set_cons_succ]
  refine wpAnyH_ready (rs := [14]) (by kernel_rfl) (by simp) ?_
  refine AllReadyH.cons (o := { dst := Option.some 60, op := Go.Op.call { callee := Go.Callee.value (Go.Operand.func 36), args := #[Go.Operand.tmp 55, Go.Operand.tmp 57, Go.Operand.tmp 59], argTypes := #[45, 9, 23] }, type := 3, pos := "law.go:95", after := #[{ on := 9, ground := Go.Ground.data }, { on := 11, ground := Go.Ground.data }, { on := 13, ground := Go.Ground.data }, { on := 8, ground := Go.Ground.chain }], guard := Option.none }) rfl (fun K hK => ?_) AllReadyH.nil
  go_simp
  refine (unhide3 HC2).mono ?_
  rintro en w4 ⟨c4, X', rfl, hR, hD, hT, hin⟩
  obtain ⟨hp4, hb4⟩ := HP3.out.stepX hD hT hin
  have hpqw4 : w4.heap[w.heap.size]? = w3.heap[w.heap.size]? := hT.block _ hpl3 HN.out.2
  have hH4 : w4.cell? ⟨w.heap.size, 2, none⟩ = some (.string (str a)) ∧ w4.cell? ⟨w.heap.size, 4, none⟩ = some (.slice A b.length c) := ⟨(World.cell?_of_block hpqw4).trans hH3.1, (World.cell?_of_block hpqw4).trans hH3.2⟩
  obtain ⟨rfl, hsim⟩ := sim_append HS.out (by have := HW.out.2; omega) HR3.out hR
  have HP4 := Lib.hid (And.intro hp4 (And.intro hsim (HB3.out.trans hb4)))
  have HL4 : Hid (S'.E.length ≤ S.E.length + 1) := len_append HR3.out
  have q9 : ((c3 : Int) == (c3 : Int)) = true := by simp
  have hpl4 : w.heap.size < w4.heap.size := Nat.lt_of_lt_of_le hpl3 hb4.size
  have HQ4 : Hid (q ∉ S'.bl d ∧ q ∉ X'.bl r) := ⟨HQ3.out, fun h9 => by
    rcases hin q h9 with h8 | h8
    · exact HQ.out.2.1 h8
    · omega⟩
  have HO4 : Hid (w4.ownsRow W1.heap.size 5 1 (.slice (some ⟨q, 0, none⟩) (b.length + 1) c7) (b.length + 1) ((b ++ [171]).map bv)) := own_block HO3.out (fun i hi => by injection hi with hi; subst hi; exact hT.block _ hql3 HQ.out.2.1)
  have HST := Lib.hid (stands3_any (some ⟨q, 0, none⟩) A (b.length + 1) c7 b.length c b w4 (Rd.of_own HO4.out) ((HX.out.2.2.2.2.below HP4.out.2.2).more hp4.base_le) (by omega) h2)
  clear hp4 hsim hR hD hT hin hb4 hpqw4 HC2 HO3
  go_wp2_with fail
  refine hK.out _ _ (hH4) (fun hHeld => ?_)
  clear hK K
  try simp only [Act.put, List.setIfInBounds_toArray, List.set_cons_zero, List.set_cons_succ]
  refine wpAnyH_take (i := 15) (oi := { dst := Option.some 61, op := Go.Op.binOp Go.BinOp.eql 3 (Go.Operand.tmp 54) (Go.Operand.tmp 60) 3, type := 4, pos := "law.go:95", after := #[{ on := 8, ground := Go.Ground.data }, { on := 14, ground := Go.Ground.data }], guard := Option.none }) (v := ?_) rfl (by kernel_rfl) (by kernel_rfl) (by kernel_rfl) (fun _ _ _ h => h) (Or.inl ⟨by rfl, ?_⟩) (by assumption) ?_
  rotate_left
  · (intro w hSw; (try dsimp only at hSw); go_simp; try with_reducible rfl)
  try simp only [Act.put, List.setIfInBounds_toArray, List.set_cons_zero, List.set_cons_succ]
  refine wpAnyH_take (i := 16) (oi := { dst := Option.some 62, op := Go.Op.move (Go.Operand.tmp 61), type := 4, pos := "law.go:95", after := #[{ on := 15, ground := Go.Ground.data }, { on := 14, ground := Go.Ground.chain }], guard := Option.none }) (v := ?_) rfl (by kernel_rfl) (by kernel_rfl) (by kernel_rfl) (fun _ _ _ h => h) (Or.inl ⟨by rfl, ?_⟩) (by assumption) ?_
  rotate_left
  · (intro w hSw; (try dsimp only at hSw); go_simp; try with_reducible rfl)
  try simp only [Act.put, List.setIfInBounds_toArray, List.set_cons_zero, List.set_cons_succ]
  refine wpAnyH_take (i := 17) (oi := { dst := Option.some 63, op := Go.Op.move (Go.Operand.tmp 7), type := 23, pos := "law.go:95", after := #[{ on := 16, ground := Go.Ground.guard }], guard := Option.some (16, Bool.true) }) (v := ?_) rfl (by kernel_rfl) (by kernel_rfl) (by kernel_rfl) (fun _ _ _ h => h) (Or.inl ⟨by rfl, ?_⟩) (by assumption) ?_
  rotate_left
  · (intro w hSw; (try dsimp only at hSw); go_simp; try with_reducible rfl)
  try simp only [Act.put, List.setIfInBounds_toArray, List.set_cons_zero, List.set_cons_succ]
  refine wpAnyH_take (i := 18) (oi := { dst := Option.some 64, op := Go.Op.fieldAddr 49 (Go.Operand.tmp 5) 4, type := 0, pos := "law.go:95", after := #[{ on := 16, ground := Go.Ground.guard }], guard := Option.some (16, Bool.true) }) (v := ?_) rfl (by kernel_rfl) (by kernel_rfl) (by kernel_rfl) (fun _ _ _ h => h) (Or.inl ⟨by rfl, ?_⟩) (by assumption) ?_
  rotate_left
  · (intro w hSw; (try dsimp only at hSw); go_simp; try with_reducible rfl)
  try simp only [Act.put, List.setIfInBounds_toArray, List.set_cons_zero, List.set_cons_succ]
  refine wpAnyH_take (i := 19) (oi := { dst := Option.some 65, op := Go.Op.load 23 (Go.Operand.tmp 64), type := 23, pos := "law.go:95", after := #[{ on := 18, ground := Go.Ground.data }, { on := 16, ground := Go.Ground.guard }], guard := Option.some (16, Bool.true) }) (v := ?_) rfl (by kernel_rfl) (by kernel_rfl) (by kernel_rfl) (fun _ _ _ h => h) (Or.inl ⟨by rfl, ?_⟩) (by assumption) ?_
  rotate_left
  · (intro w hSw; (try dsimp only at hSw); go_simp; try with_reducible rfl)
  try simp only [Act.put, List.setIfInBounds_toArray, List.set_cons_zero, List.set_cons_succ]
  refine wpAnyH_ready (rs := [20]) (by kernel_rfl) (by simp) ?_
  refine AllReadyH.cons (o := { dst := Option.some 66, op := Go.Op.call { callee := Go.Callee.value (Go.Operand.func 37), args := #[Go.Operand.tmp 63, Go.Operand.tmp 65], argTypes := #[23, 23] }, type := 4, pos := "law.go:95", after := #[{ on := 17, ground := Go.Ground.data }, { on := 19, ground := Go.Ground.data }, { on := 16, ground := Go.Ground.chain }, { on := 16, ground := Go.Ground.guard }], guard := Option.some (16, Bool.true) }) rfl (fun K hK => ?_) AllReadyH.nil
  go_simp
  refine (unhide3 HST).mono ?_
  rintro en w5 ⟨rfl, b5⟩
  have hpqw5 : w5.heap[w.heap.size]? = w4.heap[w.heap.size]? := b5.block _ hpl4
  have hH5 : w5.cell? ⟨w.heap.size, 2, none⟩ = some (.string (str a)) ∧ w5.cell? ⟨w.heap.size, 4, none⟩ = some (.slice A b.length c) := ⟨(World.cell?_of_block hpqw5).trans hH4.1, (World.cell?_of_block hpqw5).trans hH4.2⟩
  have HP5 : Hid (Pair w5 base d r S' X' ∧ Sim S' X' ∧ Below base w w5) := ⟨HP4.out.1.below b5, HP4.out.2.1, HP4.out.2.2.trans (b5.mono HP4.out.1.base_le)⟩
  have HR5 : Hid (Row w5 (.slice (some ⟨q, 0, none⟩) (b.length + 1) c7) (b ++ [171])) := (row_of_own HO4.out).keep fun i hi => b5.block i (by injection hi with hi; subst hi; exact (HO4.out.lt q rfl).2)
  have HSP := Lib.hid (spoil3_any (some ⟨q, 0, none⟩) (b.length + 1) c7 (b ++ [171]) w5 HR5.out (by rw [List.length_append, List.length_singleton]; omega))
  clear hpqw5 b5 HST HO4
  go_wp2_with fail
  refine hK.out _ _ (hH5) (fun hHeld => ?_)
  clear hK K
  try simp only [Act.put, List.setIfInBounds_toArray, List.set_cons_zero, List.set_cons_succ]
  refine wpAnyH_take (i := 21) (oi := { dst := Option.some 67, op := Go.Op.pick (Go.Operand.tmp 62) (Go.Operand.tmp 66) (Go.Operand.const (Go.Value.bool Bool.false)), type := 4, pos := "law.go:95", after := #[{ on := 16, ground := Go.Ground.data }, { on := 20, ground := Go.Ground.data }], guard := Option.none }) (v := ?_) rfl (by kernel_rfl) (by kernel_rfl) (by kernel_rfl) (fun _ _ _ h => h) (Or.inl ⟨by rfl, ?_⟩) (by assumption) ?_
  rotate_left
  · (intro w hSw; (try dsimp only at hSw); go_simp; try with_reducible rfl)
  try simp only [Act.put, List.setIfInBounds_toArray, List.set_cons_zero, List.set_cons_succ]
  refine wpAnyH_take (i := 22) (oi := { dst := Option.some 8, op := Go.Op.assign (Go.Operand.tmp 67), type := 4, pos := "law.go:95", after := #[{ on := 21, ground := Go.Ground.data }, { on := 20, ground := Go.Ground.chain }, { on := 0, ground := Go.Ground.phase }, { on := 1, ground := Go.Ground.phase }, { on := 2, ground := Go.Ground.phase }, { on := 3, ground := Go.Ground.phase }, { on := 4, ground := Go.Ground.phase }, { on := 5, ground := Go.Ground.phase }, { on := 6, ground := Go.Ground.phase }, { on := 7, ground := Go.Ground.phase }, { on := 8, ground := Go.Ground.phase }, { on := 9, ground := Go.Ground.phase }, { on := 10, ground := Go.Ground.phase }, { on := 11, ground := Go.Ground.phase }, { on := 12, ground := Go.Ground.phase }, { on := 13, ground := Go.Ground.phase }, { on := 14, ground := Go.Ground.phase }, { on := 15, ground := Go.Ground.phase }, { on := 16, ground := Go.Ground.phase }, { on := 17, ground := Go.Ground.phase }, { on := 18, ground := Go.Ground.phase }, { on := 19, ground := Go.Ground.phase }, { on := 20, ground := Go.Ground.phase }, { on := 21, ground := Go.Ground.phase }], guard := Option.none }) (v := ?_) rfl (by kernel_rfl) (by kernel_rfl) (by kernel_rfl) (fun _ _ _ h => h) (Or.inl ⟨by rfl, ?_⟩) (by assumption) ?_
  rotate_left
  · (intro w hSw; (try dsimp only at hSw); go_simp; try with_reducible rfl)
  try simp only [Act.put, List.setIfInBounds_toArray, List.set_cons_zero, List.set_cons_succ]
  refine wpAnyH_done (by kernel_rfl) ?_ _
  go_wp2_with fail
  refine (unhide3 HSP).mono ?_
  rintro en w6 ⟨rfl, g6⟩
  have HP6 : Hid (Pair w6 base d r S' X') := HP5.out.1.grown g6 (fun i hi h9 => by injection h9 with h9; subst h9; exact HQ4.out.1 hi) (fun i hi h9 => by injection h9 with h9; subst h9; exact HQ4.out.2 hi)
  have HB6 : Hid (Below base w w6) := HP5.out.2.2.trans ⟨g6.os, g6.tape, g6.output, g6.size, fun i hi => g6.block i (by have := HP5.out.1.base_le; omega) (fun h9 => by injection h9 with h9; have h8 : i = q := h9; have := HQ.out.2.2; omega)⟩
  clear g6 HSP
  go_wp2_with fail
  go_ret
  exact ⟨rfl, S', X', HP6.out, HP5.out.2.1, HL4.out, HB6.out⟩
end Go.Proofs.Ytcoimlenejffpaa

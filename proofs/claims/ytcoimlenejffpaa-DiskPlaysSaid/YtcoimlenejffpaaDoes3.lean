/- does: a step, in both. (Printed by gen/does3.py.) -/
import Derived.Test.YtcoimlenejffpaaPair3
namespace Go.Proofs.Ytcoimlenejffpaa
set_option linter.all false
open Go.RowKit
def RetDo (base d r n : Nat) (w : World) (e : Ending) (w' : World) : Prop := e = .returned (.bool true) ∧ ∃ S' X', Pair w' base d r S' X' ∧ Sim S' X' ∧ S'.E.length ≤ n + 1 ∧ Below base w w'
theorem len_burn (S : DS) : (burnS S).E.length = S.E.length := by rw [burnS_E]
theorem len_setF (S : DS) (s : List UInt8) (e : FE) : (setF S s e).E.length = S.E.length := setE_len _ _ _
theorem len_sync {S S' : DS} {s : List UInt8} {c : Nat} (h : SyncR S s c S') : S'.E.length ≤ S.E.length + 1 := by
  rcases h with ⟨_, _, rfl⟩ | ⟨_, _, _, rfl⟩ | ⟨_, e, _, _, rfl⟩
  · omega
  · omega
  · unfold syncS; rw [len_burn, len_setF]; omega
theorem len_trunc {S S' : DS} {s : List UInt8} {m : Int} {c : Nat} (h : TruncR S s m c S') : S'.E.length ≤ S.E.length + 1 := by
  rcases h with ⟨_, _, rfl⟩ | ⟨_, _, _, rfl⟩ | ⟨_, e, _, ⟨_, _, rfl⟩ | ⟨_, _, _, rfl⟩⟩
  · omega
  · omega
  · omega
  · rw [len_burn, len_setF]; omega
theorem len_remE (s : List UInt8) (E : List FE) : (remE s E).length ≤ E.length := List.length_filter_le _ _
theorem len_remove {S S' : DS} {s : List UInt8} {c : Nat} (h : RemR S s c S') : S'.E.length ≤ S.E.length + 1 := by
  rcases h with ⟨_, _, rfl⟩ | ⟨_, _, _, rfl⟩ | ⟨_, e, _, _, rfl⟩
  · omega
  · omega
  · rw [len_burn]
    have := len_remE s S.E
    show (remE s S.E).length ≤ _
    omega
theorem len_rename {S S' : DS} {s t : List UInt8} {c : Nat} (h : RenR S s t c S') : S'.E.length ≤ S.E.length + 1 := by
  rcases h with ⟨_, _, rfl⟩ | ⟨_, _, _, rfl⟩ | ⟨_, e, _, _, rfl⟩
  · omega
  · omega
  · rw [len_burn]
    have h1 := (insE_perm { e with s := t } (remE t (remE s S.E))).length_eq
    have h2 := len_remE t (remE s S.E)
    have h3 := len_remE s S.E
    show (insE { e with s := t } (remE t (remE s S.E))).length ≤ _
    rw [h1, List.length_cons]
    omega
theorem len_append {S S' : DS} {s nb : List UInt8} {c : Nat} (h : AppR S s nb c S') : S'.E.length ≤ S.E.length + 1 := by
  rcases h with ⟨_, _, rfl⟩ | ⟨_, _, _, rfl⟩ | ⟨_, _, _, ⟨e, v', _, rfl⟩ | ⟨_, _, g, v', rfl⟩⟩
  · omega
  · omega
  · rw [len_burn, len_setF]; omega
  · rw [len_burn, len_setF]
    have h1 := (insE_perm (⟨s, g, .slice none 0 0, [], 0⟩ : FE) S.E).length_eq
    show (insE (⟨s, g, .slice none 0 0, [], 0⟩ : FE) S.E).length ≤ _
    rw [h1, List.length_cons]
    omega
set_option maxRecDepth 100000 in
set_option maxHeartbeats 3200000 in
theorem does_2 (base d r : Nat) (S : DS) (X : RDS) (w : World) (h : Pair w base d r S X) (hs : Sim S X) (hfew : S.E.length < 4000) (nn : Int) (a to b : List UInt8) (A : Option Addr) (c : Nat)
    (hx : StOk w base ⟨2, nn, a, to, b, A, c⟩) (hlen : stLen ⟨2, nn, a, to, b, A, c⟩ ≤ 8000)  :
    Calls Try.prog 26 #[.pointer (some ⟨d, 0, none⟩), .pointer (some ⟨r, 0, none⟩), .agg #[.int .i64 2, .int .i64 nn, .string (str a), .string (str to), .slice A b.length c]] w (RetDo base d r S.E.length w) := by
  obtain ⟨-, ⟨n1, n2⟩, ha, hto, ⟨hc1, hc2⟩, hb⟩ := hx
  simp only at n1 n2 ha hto hc1 hc2 hb
  unfold stLen at hlen
  simp only at hlen
  obtain ⟨W1, hW1⟩ : ∃ W1, w.alloc (.cells #[.int .i64 2, .int .i64 nn, .string (str a), .string (str to), .slice A b.length c] 49) = W1 := ⟨_, rfl⟩
  have b1 : Below w.heap.size w W1 := by rw [← hW1]; exact below_refl_alloc _ _
  have pb : Blk W1 w.heap.size #[.int .i64 2, .int .i64 nn, .string (str a), .string (str to), .slice A b.length c] 49 := by rw [← hW1]; exact Blk.new _ _ _
  have p0 : W1.cell? ⟨w.heap.size, 0, none⟩ = some (.int .i64 2) := pb.cell 0
  have p1 : W1.cell? ⟨w.heap.size, 1, none⟩ = some (.int .i64 nn) := pb.cell 1
  have p2 : W1.cell? ⟨w.heap.size, 2, none⟩ = some (.string (str a)) := pb.cell 2
  have p3 : W1.cell? ⟨w.heap.size, 3, none⟩ = some (.string (str to)) := pb.cell 3
  have p4 : W1.cell? ⟨w.heap.size, 4, none⟩ = some (.slice A b.length c) := pb.cell 4
  have HP1 : Hid (Pair W1 base d r S X) := h.below b1
  have HB1 : Hid (Below base w W1) := b1.mono h.base_le
  have hpd : w.heap.size ∉ S.bl d := fun h9 => by have := (h.hD.ge _ h9).2; omega
  have hpx : w.heap.size ∉ X.bl r := fun h9 => by have := (h.hX.ge _ h9).2; omega
  have HN := Lib.hid (And.intro hpd hpx)
  have HPB := Lib.hid pb
  have HX := Lib.hid (And.intro ha (And.intro hto (And.intro hc1 (And.intro hc2 hb))))
  have HS := Lib.hid hs
  have HW := Lib.hid (And.intro h.base_le hfew)
  clear hpd hpx pb b1 h hs ha hto hc1 hc2 hb hfew
  go_enter Try.func26, Try.ntmps26
  go_wp2_with fail
  refine wp_region_held_drew (S := fun w' => w'.cell? ⟨w.heap.size, 2, none⟩ = some (.string (str a))) (by kernel_rfl) (p2) (fun hHeld => ?_)
  obtain ⟨w2, hw2⟩ : ∃ w2, W1.drew = w2 := ⟨_, rfl⟩
  rw [hw2] at hHeld ⊢
  have b12 : Below W1.heap.size W1 w2 := by rw [← hw2]; exact ⟨rfl, rfl, rfl, Nat.le_refl _, fun _ _ => rfl⟩
  have HP2 : Hid (Pair w2 base d r S X) := HP1.out.below b12
  have HB2 : Hid (Below base w w2) := HB1.out.trans (b12.mono (Nat.le_trans HW.out.1 HB1.out.size))
  have hpl : w.heap.size < w2.heap.size := Nat.lt_of_lt_of_le HPB.out.lt b12.size
  have HC1 := Lib.hid (sync_any base d S w2 HP2.out.hD a HX.out.1)
  clear hw2 b12
  refine wpAnyH_take (i := 0) (oi := { dst := Option.some 73, op := Go.Op.move (Go.Operand.tmp 0), type := 25, pos := "law.go:99", after := #[], guard := Option.none }) (v := ?_) rfl (by kernel_rfl) (by kernel_rfl) (by kernel_rfl) (fun _ _ _ h => h) (Or.inl ⟨by rfl, ?_⟩) (by assumption) ?_
  rotate_left
  · (intro w hSw; (try dsimp only at hSw); go_simp; try with_reducible rfl)
  try simp only [Act.put, List.setIfInBounds_toArray, List.set_cons_zero, List.set_cons_succ]
  refine wpAnyH_take (i := 1) (oi := { dst := Option.some 74, op := Go.Op.fieldAddr 49 (Go.Operand.tmp 5) 2, type := 0, pos := "law.go:99", after := #[], guard := Option.none }) (v := ?_) rfl (by kernel_rfl) (by kernel_rfl) (by kernel_rfl) (fun _ _ _ h => h) (Or.inl ⟨by rfl, ?_⟩) (by assumption) ?_
  rotate_left
  · (intro w hSw; (try dsimp only at hSw); go_simp; try with_reducible rfl)
  try simp only [Act.put, List.setIfInBounds_toArray, List.set_cons_zero, List.set_cons_succ]
  refine wpAnyH_take (i := 2) (oi := { dst := Option.some 75, op := Go.Op.load 9 (Go.Operand.tmp 74), type := 9, pos := "law.go:99", after := #[{ on := 1, ground := Go.Ground.data }], guard := Option.none }) (v := ?_) rfl (by kernel_rfl) (by kernel_rfl) (by kernel_rfl) (fun _ _ _ h => h) (Or.inl ⟨by rfl, ?_⟩) (by assumption) ?_
  rotate_left
  · (intro w hSw; (try dsimp only at hSw); go_simp; try with_reducible rfl)
  try simp only [Act.put, List.setIfInBounds_toArray, List.set_cons_zero, List.set_cons_succ]
  refine wpAnyH_take (i := 4) (oi := { dst := Option.some 77, op := Go.Op.move (Go.Operand.tmp 1), type := 45, pos := "law.go:99", after := #[], guard := Option.none }) (v := ?_) rfl (by kernel_rfl) (by kernel_rfl) (by kernel_rfl) (fun _ _ _ h => h) (Or.inl ⟨by rfl, ?_⟩) (by assumption) ?_
  rotate_left
  · (intro w hSw; (try dsimp only at hSw); go_simp; try with_reducible rfl)
  try simp only [Act.put, List.setIfInBounds_toArray, List.set_cons_zero, List.set_cons_succ]
  refine wpAnyH_take (i := 5) (oi := { dst := Option.some 78, op := Go.Op.fieldAddr 49 (Go.Operand.tmp 5) 2, type := 0, pos := "law.go:99", after := #[], guard := Option.none }) (v := ?_) rfl (by kernel_rfl) (by kernel_rfl) (by kernel_rfl) (fun _ _ _ h => h) (Or.inl ⟨by rfl, ?_⟩) (by assumption) ?_
  rotate_left
  · (intro w hSw; (try dsimp only at hSw); go_simp; try with_reducible rfl)
  try simp only [Act.put, List.setIfInBounds_toArray, List.set_cons_zero, List.set_cons_succ]
  refine wpAnyH_take (i := 6) (oi := { dst := Option.some 79, op := Go.Op.load 9 (Go.Operand.tmp 78), type := 9, pos := "law.go:99", after := #[{ on := 5, ground := Go.Ground.data }], guard := Option.none }) (v := ?_) rfl (by kernel_rfl) (by kernel_rfl) (by kernel_rfl) (fun _ _ _ h => h) (Or.inl ⟨by rfl, ?_⟩) (by assumption) ?_
  rotate_left
  · (intro w hSw; (try dsimp only at hSw); go_simp; try with_reducible rfl)
  try simp only [Act.put, List.setIfInBounds_toArray, List.set_cons_zero, List.set_cons_succ]
  refine wpAnyH_ready (rs := [3]) (by kernel_rfl) (by simp) ?_
  refine AllReadyH.cons (o := { dst := Option.some 76, op := Go.Op.call { callee := Go.Callee.value (Go.Operand.func 12), args := #[Go.Operand.tmp 73, Go.Operand.tmp 75], argTypes := #[25, 9] }, type := 26, pos := "law.go:99", after := #[{ on := 0, ground := Go.Ground.data }, { on := 2, ground := Go.Ground.data }], guard := Option.none }) rfl (fun K hK => ?_) AllReadyH.nil
  go_simp
  refine (unhide3 HC1).mono ?_
  rintro en w3 ⟨c3, S', rfl, hR, hD, hT, hin⟩
  obtain ⟨hp3, hb3⟩ := HP2.out.stepD hD hT hin
  have hpqw3 : w3.heap[w.heap.size]? = w2.heap[w.heap.size]? := hT.block _ hpl HN.out.1
  have hH3 : w3.cell? ⟨w.heap.size, 2, none⟩ = some (.string (str a)) := (World.cell?_of_block hpqw3).trans hHeld
  have hpl3 : w.heap.size < w3.heap.size := Nat.lt_of_lt_of_le hpl hb3.size
  have HC2 := Lib.hid (rsync_any base r X w3 hp3.hX a HX.out.1)
  have HP3 := Lib.hid hp3
  have HR3 := Lib.hid hR
  have HB3 : Hid (Below base w w3) := HB2.out.trans hb3
  clear hp3 hR hD hT hin hb3 hpqw3 HC1
  go_wp2_with fail
  refine hK.out _ _ (hH3) (fun hHeld => ?_)
  clear hK K
  try simp only [Act.put, List.setIfInBounds_toArray, List.set_cons_zero, List.set_cons_succ]
  refine wpAnyH_ready (rs := [7]) (by kernel_rfl) (by simp) ?_
  refine AllReadyH.cons (o := { dst := Option.some 80, op := Go.Op.call { callee := Go.Callee.value (Go.Operand.func 39), args := #[Go.Operand.tmp 77, Go.Operand.tmp 79], argTypes := #[45, 9] }, type := 3, pos := "law.go:99", after := #[{ on := 4, ground := Go.Ground.data }, { on := 6, ground := Go.Ground.data }, { on := 3, ground := Go.Ground.chain }], guard := Option.none }) rfl (fun K hK => ?_) AllReadyH.nil
  go_simp
  refine (unhide3 HC2).mono ?_
  rintro en w4 ⟨c4, X', rfl, hR, hD, hT, hin⟩
  obtain ⟨hp4, hb4⟩ := HP3.out.stepX hD hT hin
  have hpqw4 : w4.heap[w.heap.size]? = w3.heap[w.heap.size]? := hT.block _ hpl3 HN.out.2
  have hH4 : w4.cell? ⟨w.heap.size, 2, none⟩ = some (.string (str a)) := (World.cell?_of_block hpqw4).trans hH3
  obtain ⟨rfl, hsim⟩ := sim_sync HS.out HR3.out hR
  have HP4 := Lib.hid (And.intro hp4 (And.intro hsim (HB3.out.trans hb4)))
  have HL4 : Hid (S'.E.length ≤ S.E.length + 1) := len_sync HR3.out
  have q9 : ((c3 : Int) == (c3 : Int)) = true := by simp
  clear hp4 hsim hR hD hT hin hb4 hpqw4 HC2
  go_wp2_with fail
  refine hK.out _ _ (hH4) (fun hHeld => ?_)
  clear hK K
  try simp only [Act.put, List.setIfInBounds_toArray, List.set_cons_zero, List.set_cons_succ]
  refine wpAnyH_take (i := 8) (oi := { dst := Option.some 81, op := Go.Op.binOp Go.BinOp.eql 3 (Go.Operand.tmp 76) (Go.Operand.tmp 80) 3, type := 4, pos := "law.go:99", after := #[{ on := 3, ground := Go.Ground.data }, { on := 7, ground := Go.Ground.data }], guard := Option.none }) (v := ?_) rfl (by kernel_rfl) (by kernel_rfl) (by kernel_rfl) (fun _ _ _ h => h) (Or.inl ⟨by rfl, ?_⟩) (by assumption) ?_
  rotate_left
  · (intro w hSw; (try dsimp only at hSw); go_simp; try with_reducible rfl)
  try simp only [Act.put, List.setIfInBounds_toArray, List.set_cons_zero, List.set_cons_succ]
  refine wpAnyH_take (i := 9) (oi := { dst := Option.some 6, op := Go.Op.assign (Go.Operand.tmp 81), type := 4, pos := "law.go:99", after := #[{ on := 8, ground := Go.Ground.data }, { on := 7, ground := Go.Ground.chain }, { on := 0, ground := Go.Ground.phase }, { on := 1, ground := Go.Ground.phase }, { on := 2, ground := Go.Ground.phase }, { on := 3, ground := Go.Ground.phase }, { on := 4, ground := Go.Ground.phase }, { on := 5, ground := Go.Ground.phase }, { on := 6, ground := Go.Ground.phase }, { on := 7, ground := Go.Ground.phase }, { on := 8, ground := Go.Ground.phase }], guard := Option.none }) (v := ?_) rfl (by kernel_rfl) (by kernel_rfl) (by kernel_rfl) (fun _ _ _ h => h) (Or.inl ⟨by rfl, ?_⟩) (by assumption) ?_
  rotate_left
  · (intro w hSw; (try dsimp only at hSw); go_simp; try with_reducible rfl)
  try simp only [Act.put, List.setIfInBounds_toArray, List.set_cons_zero, List.set_cons_succ]
  refine wpAnyH_done (by kernel_rfl) ?_ _
  go_wp2_with fail
  go_ret
  exact ⟨rfl, S', X', HP4.out.1, HP4.out.2.1, HL4.out, HP4.out.2.2⟩
set_option maxRecDepth 100000 in
set_option maxHeartbeats 3200000 in
theorem does_3 (base d r : Nat) (S : DS) (X : RDS) (w : World) (h : Pair w base d r S X) (hs : Sim S X) (hfew : S.E.length < 4000) (nn : Int) (a to b : List UInt8) (A : Option Addr) (c : Nat)
    (hx : StOk w base ⟨3, nn, a, to, b, A, c⟩) (hlen : stLen ⟨3, nn, a, to, b, A, c⟩ ≤ 8000)  :
    Calls Try.prog 26 #[.pointer (some ⟨d, 0, none⟩), .pointer (some ⟨r, 0, none⟩), .agg #[.int .i64 3, .int .i64 nn, .string (str a), .string (str to), .slice A b.length c]] w (RetDo base d r S.E.length w) := by
  obtain ⟨-, ⟨n1, n2⟩, ha, hto, ⟨hc1, hc2⟩, hb⟩ := hx
  simp only at n1 n2 ha hto hc1 hc2 hb
  unfold stLen at hlen
  simp only at hlen
  obtain ⟨W1, hW1⟩ : ∃ W1, w.alloc (.cells #[.int .i64 3, .int .i64 nn, .string (str a), .string (str to), .slice A b.length c] 49) = W1 := ⟨_, rfl⟩
  have b1 : Below w.heap.size w W1 := by rw [← hW1]; exact below_refl_alloc _ _
  have pb : Blk W1 w.heap.size #[.int .i64 3, .int .i64 nn, .string (str a), .string (str to), .slice A b.length c] 49 := by rw [← hW1]; exact Blk.new _ _ _
  have p0 : W1.cell? ⟨w.heap.size, 0, none⟩ = some (.int .i64 3) := pb.cell 0
  have p1 : W1.cell? ⟨w.heap.size, 1, none⟩ = some (.int .i64 nn) := pb.cell 1
  have p2 : W1.cell? ⟨w.heap.size, 2, none⟩ = some (.string (str a)) := pb.cell 2
  have p3 : W1.cell? ⟨w.heap.size, 3, none⟩ = some (.string (str to)) := pb.cell 3
  have p4 : W1.cell? ⟨w.heap.size, 4, none⟩ = some (.slice A b.length c) := pb.cell 4
  have HP1 : Hid (Pair W1 base d r S X) := h.below b1
  have HB1 : Hid (Below base w W1) := b1.mono h.base_le
  have hpd : w.heap.size ∉ S.bl d := fun h9 => by have := (h.hD.ge _ h9).2; omega
  have hpx : w.heap.size ∉ X.bl r := fun h9 => by have := (h.hX.ge _ h9).2; omega
  have HN := Lib.hid (And.intro hpd hpx)
  have HPB := Lib.hid pb
  have HX := Lib.hid (And.intro ha (And.intro hto (And.intro hc1 (And.intro hc2 hb))))
  have HS := Lib.hid hs
  have HW := Lib.hid (And.intro h.base_le hfew)
  clear hpd hpx pb b1 h hs ha hto hc1 hc2 hb hfew
  go_enter Try.func26, Try.ntmps26
  go_wp2_with fail
  refine wp_region_held_drew (S := fun w' => w'.cell? ⟨w.heap.size, 2, none⟩ = some (.string (str a)) ∧ w'.cell? ⟨w.heap.size, 1, none⟩ = some (.int .i64 nn)) (by kernel_rfl) (⟨p2, p1⟩) (fun hHeld => ?_)
  obtain ⟨w2, hw2⟩ : ∃ w2, W1.drew = w2 := ⟨_, rfl⟩
  rw [hw2] at hHeld ⊢
  have b12 : Below W1.heap.size W1 w2 := by rw [← hw2]; exact ⟨rfl, rfl, rfl, Nat.le_refl _, fun _ _ => rfl⟩
  have HP2 : Hid (Pair w2 base d r S X) := HP1.out.below b12
  have HB2 : Hid (Below base w w2) := HB1.out.trans (b12.mono (Nat.le_trans HW.out.1 HB1.out.size))
  have hpl : w.heap.size < w2.heap.size := Nat.lt_of_lt_of_le HPB.out.lt b12.size
  have HC1 := Lib.hid (trunc_any base d S w2 HP2.out.hD a HX.out.1 nn n1 n2)
  clear hw2 b12
  refine wpAnyH_take (i := 0) (oi := { dst := Option.some 84, op := Go.Op.move (Go.Operand.tmp 0), type := 25, pos := "law.go:101", after := #[], guard := Option.none }) (v := ?_) rfl (by kernel_rfl) (by kernel_rfl) (by kernel_rfl) (fun _ _ _ h => h) (Or.inl ⟨by rfl, ?_⟩) (by assumption) ?_
  rotate_left
  · (intro w hSw; (try dsimp only at hSw); go_simp; try with_reducible rfl)
  try simp only [Act.put, List.setIfInBounds_toArray, List.set_cons_zero, List.set_cons_succ]
  refine wpAnyH_take (i := 1) (oi := { dst := Option.some 85, op := Go.Op.fieldAddr 49 (Go.Operand.tmp 5) 2, type := 0, pos := "law.go:101", after := #[], guard := Option.none }) (v := ?_) rfl (by kernel_rfl) (by kernel_rfl) (by kernel_rfl) (fun _ _ _ h => h) (Or.inl ⟨by rfl, ?_⟩) (by assumption) ?_
  rotate_left
  · (intro w hSw; (try dsimp only at hSw); go_simp; try with_reducible rfl)
  try simp only [Act.put, List.setIfInBounds_toArray, List.set_cons_zero, List.set_cons_succ]
  refine wpAnyH_take (i := 2) (oi := { dst := Option.some 86, op := Go.Op.load 9 (Go.Operand.tmp 85), type := 9, pos := "law.go:101", after := #[{ on := 1, ground := Go.Ground.data }], guard := Option.none }) (v := ?_) rfl (by kernel_rfl) (by kernel_rfl) (by kernel_rfl) (fun _ _ _ h => h) (Or.inl ⟨by rfl, ?_⟩) (by assumption) ?_
  rotate_left
  · (intro w hSw; (try dsimp only at hSw); go_simp; try with_reducible rfl)
  try simp only [Act.put, List.setIfInBounds_toArray, List.set_cons_zero, List.set_cons_succ]
  refine wpAnyH_take (i := 3) (oi := { dst := Option.some 87, op := Go.Op.fieldAddr 49 (Go.Operand.tmp 5) 1, type := 0, pos := "law.go:101", after := #[], guard := Option.none }) (v := ?_) rfl (by kernel_rfl) (by kernel_rfl) (by kernel_rfl) (fun _ _ _ h => h) (Or.inl ⟨by rfl, ?_⟩) (by assumption) ?_
  rotate_left
  · (intro w hSw; (try dsimp only at hSw); go_simp; try with_reducible rfl)
  try simp only [Act.put, List.setIfInBounds_toArray, List.set_cons_zero, List.set_cons_succ]
  refine wpAnyH_take (i := 4) (oi := { dst := Option.some 88, op := Go.Op.load 3 (Go.Operand.tmp 87), type := 3, pos := "law.go:101", after := #[{ on := 3, ground := Go.Ground.data }], guard := Option.none }) (v := ?_) rfl (by kernel_rfl) (by kernel_rfl) (by kernel_rfl) (fun _ _ _ h => h) (Or.inl ⟨by rfl, ?_⟩) (by assumption) ?_
  rotate_left
  · (intro w hSw; (try dsimp only at hSw); go_simp; try with_reducible rfl)
  try simp only [Act.put, List.setIfInBounds_toArray, List.set_cons_zero, List.set_cons_succ]
  refine wpAnyH_take (i := 6) (oi := { dst := Option.some 90, op := Go.Op.move (Go.Operand.tmp 1), type := 45, pos := "law.go:101", after := #[], guard := Option.none }) (v := ?_) rfl (by kernel_rfl) (by kernel_rfl) (by kernel_rfl) (fun _ _ _ h => h) (Or.inl ⟨by rfl, ?_⟩) (by assumption) ?_
  rotate_left
  · (intro w hSw; (try dsimp only at hSw); go_simp; try with_reducible rfl)
  try simp only [Act.put, List.setIfInBounds_toArray, List.set_cons_zero, List.set_cons_succ]
  refine wpAnyH_take (i := 7) (oi := { dst := Option.some 91, op := Go.Op.fieldAddr 49 (Go.Operand.tmp 5) 2, type := 0, pos := "law.go:101", after := #[], guard := Option.none }) (v := ?_) rfl (by kernel_rfl) (by kernel_rfl) (by kernel_rfl) (fun _ _ _ h => h) (Or.inl ⟨by rfl, ?_⟩) (by assumption) ?_
  rotate_left
  · (intro w hSw; (try dsimp only at hSw); go_simp; try with_reducible rfl)
  try simp only [Act.put, List.setIfInBounds_toArray, List.set_cons_zero, List.set_cons_succ]
  refine wpAnyH_take (i := 8) (oi := { dst := Option.some 92, op := Go.Op.load 9 (Go.Operand.tmp 91), type := 9, pos := "law.go:101", after := #[{ on := 7, ground := Go.Ground.data }], guard := Option.none }) (v := ?_) rfl (by kernel_rfl) (by kernel_rfl) (by kernel_rfl) (fun _ _ _ h => h) (Or.inl ⟨by rfl, ?_⟩) (by assumption) ?_
  rotate_left
  · (intro w hSw; (try dsimp only at hSw); go_simp; try with_reducible rfl)
  try simp only [Act.put, List.setIfInBounds_toArray, List.set_cons_zero, List.set_cons_succ]
  refine wpAnyH_take (i := 9) (oi := { dst := Option.some 93, op := Go.Op.fieldAddr 49 (Go.Operand.tmp 5) 1, type := 0, pos := "law.go:101", after := #[], guard := Option.none }) (v := ?_) rfl (by kernel_rfl) (by kernel_rfl) (by kernel_rfl) (fun _ _ _ h => h) (Or.inl ⟨by rfl, ?_⟩) (by assumption) ?_
  rotate_left
  · (intro w hSw; (try dsimp only at hSw); go_simp; try with_reducible rfl)
  try simp only [Act.put, List.setIfInBounds_toArray, List.set_cons_zero, List.set_cons_succ]
  refine wpAnyH_take (i := 10) (oi := { dst := Option.some 94, op := Go.Op.load 3 (Go.Operand.tmp 93), type := 3, pos := "law.go:101", after := #[{ on := 9, ground := Go.Ground.data }], guard := Option.none }) (v := ?_) rfl (by kernel_rfl) (by kernel_rfl) (by kernel_rfl) (fun _ _ _ h => h) (Or.inl ⟨by rfl, ?_⟩) (by assumption) ?_
  rotate_left
  · (intro w hSw; (try dsimp only at hSw); go_simp; try with_reducible rfl)
  try simp only [Act.put, List.setIfInBounds_toArray, List.set_cons_zero, List.set_cons_succ]
  refine wpAnyH_ready (rs := [5]) (by kernel_rfl) (by simp) ?_
  refine AllReadyH.cons (o := { dst := Option.some 89, op := Go.Op.call { callee := Go.Callee.value (Go.Operand.func 28), args := #[Go.Operand.tmp 84, Go.Operand.tmp 86, Go.Operand.tmp 88], argTypes := #[25, 9, 3] }, type := 26, pos := "law.go:101", after := #[{ on := 0, ground := Go.Ground.data }, { on := 2, ground := Go.Ground.data }, { on := 4, ground := Go.Ground.data }], guard := Option.none }) rfl (fun K hK => ?_) AllReadyH.nil
  go_simp
  refine (unhide3 HC1).mono ?_
  rintro en w3 ⟨c3, S', rfl, hR, hD, hT, hin⟩
  obtain ⟨hp3, hb3⟩ := HP2.out.stepD hD hT hin
  have hpqw3 : w3.heap[w.heap.size]? = w2.heap[w.heap.size]? := hT.block _ hpl HN.out.1
  have hH3 : w3.cell? ⟨w.heap.size, 2, none⟩ = some (.string (str a)) ∧ w3.cell? ⟨w.heap.size, 1, none⟩ = some (.int .i64 nn) := ⟨(World.cell?_of_block hpqw3).trans hHeld.1, (World.cell?_of_block hpqw3).trans hHeld.2⟩
  have hpl3 : w.heap.size < w3.heap.size := Nat.lt_of_lt_of_le hpl hb3.size
  have HC2 := Lib.hid (rtrunc_any base r X w3 hp3.hX a HX.out.1 nn n1 n2)
  have HP3 := Lib.hid hp3
  have HR3 := Lib.hid hR
  have HB3 : Hid (Below base w w3) := HB2.out.trans hb3
  clear hp3 hR hD hT hin hb3 hpqw3 HC1
  go_wp2_with fail
  refine hK.out _ _ (hH3) (fun hHeld => ?_)
  clear hK K
  try simp only [Act.put, List.setIfInBounds_toArray, List.set_cons_zero, List.set_cons_succ]
  refine wpAnyH_ready (rs := [11]) (by kernel_rfl) (by simp) ?_
  refine AllReadyH.cons (o := { dst := Option.some 95, op := Go.Op.call { callee := Go.Callee.value (Go.Operand.func 40), args := #[Go.Operand.tmp 90, Go.Operand.tmp 92, Go.Operand.tmp 94], argTypes := #[45, 9, 3] }, type := 3, pos := "law.go:101", after := #[{ on := 6, ground := Go.Ground.data }, { on := 8, ground := Go.Ground.data }, { on := 10, ground := Go.Ground.data }, { on := 5, ground := Go.Ground.chain }], guard := Option.none }) rfl (fun K hK => ?_) AllReadyH.nil
  go_simp
  refine (unhide3 HC2).mono ?_
  rintro en w4 ⟨c4, X', rfl, hR, hD, hT, hin⟩
  obtain ⟨hp4, hb4⟩ := HP3.out.stepX hD hT hin
  have hpqw4 : w4.heap[w.heap.size]? = w3.heap[w.heap.size]? := hT.block _ hpl3 HN.out.2
  have hH4 : w4.cell? ⟨w.heap.size, 2, none⟩ = some (.string (str a)) ∧ w4.cell? ⟨w.heap.size, 1, none⟩ = some (.int .i64 nn) := ⟨(World.cell?_of_block hpqw4).trans hH3.1, (World.cell?_of_block hpqw4).trans hH3.2⟩
  obtain ⟨rfl, hsim⟩ := sim_trunc HS.out HR3.out hR
  have HP4 := Lib.hid (And.intro hp4 (And.intro hsim (HB3.out.trans hb4)))
  have HL4 : Hid (S'.E.length ≤ S.E.length + 1) := len_trunc HR3.out
  have q9 : ((c3 : Int) == (c3 : Int)) = true := by simp
  clear hp4 hsim hR hD hT hin hb4 hpqw4 HC2
  go_wp2_with fail
  refine hK.out _ _ (hH4) (fun hHeld => ?_)
  clear hK K
  try simp only [Act.put, List.setIfInBounds_toArray, List.set_cons_zero, List.set_cons_succ]
  refine wpAnyH_take (i := 12) (oi := { dst := Option.some 96, op := Go.Op.binOp Go.BinOp.eql 3 (Go.Operand.tmp 89) (Go.Operand.tmp 95) 3, type := 4, pos := "law.go:101", after := #[{ on := 5, ground := Go.Ground.data }, { on := 11, ground := Go.Ground.data }], guard := Option.none }) (v := ?_) rfl (by kernel_rfl) (by kernel_rfl) (by kernel_rfl) (fun _ _ _ h => h) (Or.inl ⟨by rfl, ?_⟩) (by assumption) ?_
  rotate_left
  · (intro w hSw; (try dsimp only at hSw); go_simp; try with_reducible rfl)
  try simp only [Act.put, List.setIfInBounds_toArray, List.set_cons_zero, List.set_cons_succ]
  refine wpAnyH_take (i := 13) (oi := { dst := Option.some 6, op := Go.Op.assign (Go.Operand.tmp 96), type := 4, pos := "law.go:101", after := #[{ on := 12, ground := Go.Ground.data }, { on := 11, ground := Go.Ground.chain }, { on := 0, ground := Go.Ground.phase }, { on := 1, ground := Go.Ground.phase }, { on := 2, ground := Go.Ground.phase }, { on := 3, ground := Go.Ground.phase }, { on := 4, ground := Go.Ground.phase }, { on := 5, ground := Go.Ground.phase }, { on := 6, ground := Go.Ground.phase }, { on := 7, ground := Go.Ground.phase }, { on := 8, ground := Go.Ground.phase }, { on := 9, ground := Go.Ground.phase }, { on := 10, ground := Go.Ground.phase }, { on := 11, ground := Go.Ground.phase }, { on := 12, ground := Go.Ground.phase }], guard := Option.none }) (v := ?_) rfl (by kernel_rfl) (by kernel_rfl) (by kernel_rfl) (fun _ _ _ h => h) (Or.inl ⟨by rfl, ?_⟩) (by assumption) ?_
  rotate_left
  · (intro w hSw; (try dsimp only at hSw); go_simp; try with_reducible rfl)
  try simp only [Act.put, List.setIfInBounds_toArray, List.set_cons_zero, List.set_cons_succ]
  refine wpAnyH_done (by kernel_rfl) ?_ _
  go_wp2_with fail
  go_ret
  exact ⟨rfl, S', X', HP4.out.1, HP4.out.2.1, HL4.out, HP4.out.2.2⟩
set_option maxRecDepth 100000 in
set_option maxHeartbeats 3200000 in
theorem does_4 (base d r : Nat) (S : DS) (X : RDS) (w : World) (h : Pair w base d r S X) (hs : Sim S X) (hfew : S.E.length < 4000) (nn : Int) (a to b : List UInt8) (A : Option Addr) (c : Nat)
    (hx : StOk w base ⟨4, nn, a, to, b, A, c⟩) (hlen : stLen ⟨4, nn, a, to, b, A, c⟩ ≤ 8000)  :
    Calls Try.prog 26 #[.pointer (some ⟨d, 0, none⟩), .pointer (some ⟨r, 0, none⟩), .agg #[.int .i64 4, .int .i64 nn, .string (str a), .string (str to), .slice A b.length c]] w (RetDo base d r S.E.length w) := by
  obtain ⟨-, ⟨n1, n2⟩, ha, hto, ⟨hc1, hc2⟩, hb⟩ := hx
  simp only at n1 n2 ha hto hc1 hc2 hb
  unfold stLen at hlen
  simp only at hlen
  obtain ⟨W1, hW1⟩ : ∃ W1, w.alloc (.cells #[.int .i64 4, .int .i64 nn, .string (str a), .string (str to), .slice A b.length c] 49) = W1 := ⟨_, rfl⟩
  have b1 : Below w.heap.size w W1 := by rw [← hW1]; exact below_refl_alloc _ _
  have pb : Blk W1 w.heap.size #[.int .i64 4, .int .i64 nn, .string (str a), .string (str to), .slice A b.length c] 49 := by rw [← hW1]; exact Blk.new _ _ _
  have p0 : W1.cell? ⟨w.heap.size, 0, none⟩ = some (.int .i64 4) := pb.cell 0
  have p1 : W1.cell? ⟨w.heap.size, 1, none⟩ = some (.int .i64 nn) := pb.cell 1
  have p2 : W1.cell? ⟨w.heap.size, 2, none⟩ = some (.string (str a)) := pb.cell 2
  have p3 : W1.cell? ⟨w.heap.size, 3, none⟩ = some (.string (str to)) := pb.cell 3
  have p4 : W1.cell? ⟨w.heap.size, 4, none⟩ = some (.slice A b.length c) := pb.cell 4
  have HP1 : Hid (Pair W1 base d r S X) := h.below b1
  have HB1 : Hid (Below base w W1) := b1.mono h.base_le
  have hpd : w.heap.size ∉ S.bl d := fun h9 => by have := (h.hD.ge _ h9).2; omega
  have hpx : w.heap.size ∉ X.bl r := fun h9 => by have := (h.hX.ge _ h9).2; omega
  have HN := Lib.hid (And.intro hpd hpx)
  have HPB := Lib.hid pb
  have HX := Lib.hid (And.intro ha (And.intro hto (And.intro hc1 (And.intro hc2 hb))))
  have HS := Lib.hid hs
  have HW := Lib.hid (And.intro h.base_le hfew)
  clear hpd hpx pb b1 h hs ha hto hc1 hc2 hb hfew
  go_enter Try.func26, Try.ntmps26
  go_wp2_with fail
  refine wp_region_held_drew (S := fun w' => w'.cell? ⟨w.heap.size, 2, none⟩ = some (.string (str a)) ∧ w'.cell? ⟨w.heap.size, 3, none⟩ = some (.string (str to))) (by kernel_rfl) (⟨p2, p3⟩) (fun hHeld => ?_)
  obtain ⟨w2, hw2⟩ : ∃ w2, W1.drew = w2 := ⟨_, rfl⟩
  rw [hw2] at hHeld ⊢
  have b12 : Below W1.heap.size W1 w2 := by rw [← hw2]; exact ⟨rfl, rfl, rfl, Nat.le_refl _, fun _ _ => rfl⟩
  have HP2 : Hid (Pair w2 base d r S X) := HP1.out.below b12
  have HB2 : Hid (Below base w w2) := HB1.out.trans (b12.mono (Nat.le_trans HW.out.1 HB1.out.size))
  have hpl : w.heap.size < w2.heap.size := Nat.lt_of_lt_of_le HPB.out.lt b12.size
  have HC1 := Lib.hid (rename_any base d S w2 HP2.out.hD a to HX.out.1 HX.out.2.1)
  clear hw2 b12
  refine wpAnyH_take (i := 0) (oi := { dst := Option.some 99, op := Go.Op.move (Go.Operand.tmp 0), type := 25, pos := "law.go:103", after := #[], guard := Option.none }) (v := ?_) rfl (by kernel_rfl) (by kernel_rfl) (by kernel_rfl) (fun _ _ _ h => h) (Or.inl ⟨by rfl, ?_⟩) (by assumption) ?_
  rotate_left
  · (intro w hSw; (try dsimp only at hSw); go_simp; try with_reducible rfl)
  try simp only [Act.put, List.setIfInBounds_toArray, List.set_cons_zero, List.set_cons_succ]
  refine wpAnyH_take (i := 1) (oi := { dst := Option.some 100, op := Go.Op.fieldAddr 49 (Go.Operand.tmp 5) 2, type := 0, pos := "law.go:103", after := #[], guard := Option.none }) (v := ?_) rfl (by kernel_rfl) (by kernel_rfl) (by kernel_rfl) (fun _ _ _ h => h) (Or.inl ⟨by rfl, ?_⟩) (by assumption) ?_
  rotate_left
  · (intro w hSw; (try dsimp only at hSw); go_simp; try with_reducible rfl)
  try simp only [Act.put, List.setIfInBounds_toArray, List.set_cons_zero, List.set_cons_succ]
  refine wpAnyH_take (i := 2) (oi := { dst := Option.some 101, op := Go.Op.load 9 (Go.Operand.tmp 100), type := 9, pos := "law.go:103", after := #[{ on := 1, ground := Go.Ground.data }], guard := Option.none }) (v := ?_) rfl (by kernel_rfl) (by kernel_rfl) (by kernel_rfl) (fun _ _ _ h => h) (Or.inl ⟨by rfl, ?_⟩) (by assumption) ?_
  rotate_left
  · (intro w hSw; (try dsimp only at hSw); go_simp; try with_reducible rfl)
  try simp only [Act.put, List.setIfInBounds_toArray, List.set_cons_zero, List.set_cons_succ]
  refine wpAnyH_take (i := 3) (oi := { dst := Option.some 102, op := Go.Op.fieldAddr 49 (Go.Operand.tmp 5) 3, type := 0, pos := "law.go:103", after := #[], guard := Option.none }) (v := ?_) rfl (by kernel_rfl) (by kernel_rfl) (by kernel_rfl) (fun _ _ _ h => h) (Or.inl ⟨by rfl, ?_⟩) (by assumption) ?_
  rotate_left
  · (intro w hSw; (try dsimp only at hSw); go_simp; try with_reducible rfl)
  try simp only [Act.put, List.setIfInBounds_toArray, List.set_cons_zero, List.set_cons_succ]
  refine wpAnyH_take (i := 4) (oi := { dst := Option.some 103, op := Go.Op.load 9 (Go.Operand.tmp 102), type := 9, pos := "law.go:103", after := #[{ on := 3, ground := Go.Ground.data }], guard := Option.none }) (v := ?_) rfl (by kernel_rfl) (by kernel_rfl) (by kernel_rfl) (fun _ _ _ h => h) (Or.inl ⟨by rfl, ?_⟩) (by assumption) ?_
  rotate_left
  · (intro w hSw; (try dsimp only at hSw); go_simp; try with_reducible rfl)
  try simp only [Act.put, List.setIfInBounds_toArray, List.set_cons_zero, List.set_cons_succ]
  refine wpAnyH_take (i := 6) (oi := { dst := Option.some 105, op := Go.Op.move (Go.Operand.tmp 1), type := 45, pos := "law.go:103", after := #[], guard := Option.none }) (v := ?_) rfl (by kernel_rfl) (by kernel_rfl) (by kernel_rfl) (fun _ _ _ h => h) (Or.inl ⟨by rfl, ?_⟩) (by assumption) ?_
  rotate_left
  · (intro w hSw; (try dsimp only at hSw); go_simp; try with_reducible rfl)
  try simp only [Act.put, List.setIfInBounds_toArray, List.set_cons_zero, List.set_cons_succ]
  refine wpAnyH_take (i := 7) (oi := { dst := Option.some 106, op := Go.Op.fieldAddr 49 (Go.Operand.tmp 5) 2, type := 0, pos := "law.go:103", after := #[], guard := Option.none }) (v := ?_) rfl (by kernel_rfl) (by kernel_rfl) (by kernel_rfl) (fun _ _ _ h => h) (Or.inl ⟨by rfl, ?_⟩) (by assumption) ?_
  rotate_left
  · (intro w hSw; (try dsimp only at hSw); go_simp; try with_reducible rfl)
  try simp only [Act.put, List.setIfInBounds_toArray, List.set_cons_zero, List.set_cons_succ]
  refine wpAnyH_take (i := 8) (oi := { dst := Option.some 107, op := Go.Op.load 9 (Go.Operand.tmp 106), type := 9, pos := "law.go:103", after := #[{ on := 7, ground := Go.Ground.data }], guard := Option.none }) (v := ?_) rfl (by kernel_rfl) (by kernel_rfl) (by kernel_rfl) (fun _ _ _ h => h) (Or.inl ⟨by rfl, ?_⟩) (by assumption) ?_
  rotate_left
  · (intro w hSw; (try dsimp only at hSw); go_simp; try with_reducible rfl)
  try simp only [Act.put, List.setIfInBounds_toArray, List.set_cons_zero, List.set_cons_succ]
  refine wpAnyH_take (i := 9) (oi := { dst := Option.some 108, op := Go.Op.fieldAddr 49 (Go.Operand.tmp 5) 3, type := 0, pos := "law.go:103", after := #[], guard := Option.none }) (v := ?_) rfl (by kernel_rfl) (by kernel_rfl) (by kernel_rfl) (fun _ _ _ h => h) (Or.inl ⟨by rfl, ?_⟩) (by assumption) ?_
  rotate_left
  · (intro w hSw; (try dsimp only at hSw); go_simp; try with_reducible rfl)
  try simp only [Act.put, List.setIfInBounds_toArray, List.set_cons_zero, List.set_cons_succ]
  refine wpAnyH_take (i := 10) (oi := { dst := Option.some 109, op := Go.Op.load 9 (Go.Operand.tmp 108), type := 9, pos := "law.go:103", after := #[{ on := 9, ground := Go.Ground.data }], guard := Option.none }) (v := ?_) rfl (by kernel_rfl) (by kernel_rfl) (by kernel_rfl) (fun _ _ _ h => h) (Or.inl ⟨by rfl, ?_⟩) (by assumption) ?_
  rotate_left
  · (intro w hSw; (try dsimp only at hSw); go_simp; try with_reducible rfl)
  try simp only [Act.put, List.setIfInBounds_toArray, List.set_cons_zero, List.set_cons_succ]
  refine wpAnyH_ready (rs := [5]) (by kernel_rfl) (by simp) ?_
  refine AllReadyH.cons (o := { dst := Option.some 104, op := Go.Op.call { callee := Go.Callee.value (Go.Operand.func 19), args := #[Go.Operand.tmp 99, Go.Operand.tmp 101, Go.Operand.tmp 103], argTypes := #[25, 9, 9] }, type := 26, pos := "law.go:103", after := #[{ on := 0, ground := Go.Ground.data }, { on := 2, ground := Go.Ground.data }, { on := 4, ground := Go.Ground.data }], guard := Option.none }) rfl (fun K hK => ?_) AllReadyH.nil
  go_simp
  refine (unhide3 HC1).mono ?_
  rintro en w3 ⟨c3, S', rfl, hR, hD, hT, hin⟩
  obtain ⟨hp3, hb3⟩ := HP2.out.stepD hD hT hin
  have hpqw3 : w3.heap[w.heap.size]? = w2.heap[w.heap.size]? := hT.block _ hpl HN.out.1
  have hH3 : w3.cell? ⟨w.heap.size, 2, none⟩ = some (.string (str a)) ∧ w3.cell? ⟨w.heap.size, 3, none⟩ = some (.string (str to)) := ⟨(World.cell?_of_block hpqw3).trans hHeld.1, (World.cell?_of_block hpqw3).trans hHeld.2⟩
  have hpl3 : w.heap.size < w3.heap.size := Nat.lt_of_lt_of_le hpl hb3.size
  have HC2 := Lib.hid (rrename_any base r X w3 hp3.hX a to HX.out.1 HX.out.2.1)
  have HP3 := Lib.hid hp3
  have HR3 := Lib.hid hR
  have HB3 : Hid (Below base w w3) := HB2.out.trans hb3
  clear hp3 hR hD hT hin hb3 hpqw3 HC1
  go_wp2_with fail
  refine hK.out _ _ (hH3) (fun hHeld => ?_)
  clear hK K
  try simp only [Act.put, List.setIfInBounds_toArray, List.set_cons_zero, List.set_cons_succ]
  refine wpAnyH_ready (rs := [11]) (by kernel_rfl) (by simp) ?_
  refine AllReadyH.cons (o := { dst := Option.some 110, op := Go.Op.call { callee := Go.Callee.value (Go.Operand.func 41), args := #[Go.Operand.tmp 105, Go.Operand.tmp 107, Go.Operand.tmp 109], argTypes := #[45, 9, 9] }, type := 3, pos := "law.go:103", after := #[{ on := 6, ground := Go.Ground.data }, { on := 8, ground := Go.Ground.data }, { on := 10, ground := Go.Ground.data }, { on := 5, ground := Go.Ground.chain }], guard := Option.none }) rfl (fun K hK => ?_) AllReadyH.nil
  go_simp
  refine (unhide3 HC2).mono ?_
  rintro en w4 ⟨c4, X', rfl, hR, hD, hT, hin⟩
  obtain ⟨hp4, hb4⟩ := HP3.out.stepX hD hT hin
  have hpqw4 : w4.heap[w.heap.size]? = w3.heap[w.heap.size]? := hT.block _ hpl3 HN.out.2
  have hH4 : w4.cell? ⟨w.heap.size, 2, none⟩ = some (.string (str a)) ∧ w4.cell? ⟨w.heap.size, 3, none⟩ = some (.string (str to)) := ⟨(World.cell?_of_block hpqw4).trans hH3.1, (World.cell?_of_block hpqw4).trans hH3.2⟩
  obtain ⟨rfl, hsim⟩ := sim_rename HS.out HR3.out hR
  have HP4 := Lib.hid (And.intro hp4 (And.intro hsim (HB3.out.trans hb4)))
  have HL4 : Hid (S'.E.length ≤ S.E.length + 1) := len_rename HR3.out
  have q9 : ((c3 : Int) == (c3 : Int)) = true := by simp
  clear hp4 hsim hR hD hT hin hb4 hpqw4 HC2
  go_wp2_with fail
  refine hK.out _ _ (hH4) (fun hHeld => ?_)
  clear hK K
  try simp only [Act.put, List.setIfInBounds_toArray, List.set_cons_zero, List.set_cons_succ]
  refine wpAnyH_take (i := 12) (oi := { dst := Option.some 111, op := Go.Op.binOp Go.BinOp.eql 3 (Go.Operand.tmp 104) (Go.Operand.tmp 110) 3, type := 4, pos := "law.go:103", after := #[{ on := 5, ground := Go.Ground.data }, { on := 11, ground := Go.Ground.data }], guard := Option.none }) (v := ?_) rfl (by kernel_rfl) (by kernel_rfl) (by kernel_rfl) (fun _ _ _ h => h) (Or.inl ⟨by rfl, ?_⟩) (by assumption) ?_
  rotate_left
  · (intro w hSw; (try dsimp only at hSw); go_simp; try with_reducible rfl)
  try simp only [Act.put, List.setIfInBounds_toArray, List.set_cons_zero, List.set_cons_succ]
  refine wpAnyH_take (i := 13) (oi := { dst := Option.some 6, op := Go.Op.assign (Go.Operand.tmp 111), type := 4, pos := "law.go:103", after := #[{ on := 12, ground := Go.Ground.data }, { on := 11, ground := Go.Ground.chain }, { on := 0, ground := Go.Ground.phase }, { on := 1, ground := Go.Ground.phase }, { on := 2, ground := Go.Ground.phase }, { on := 3, ground := Go.Ground.phase }, { on := 4, ground := Go.Ground.phase }, { on := 5, ground := Go.Ground.phase }, { on := 6, ground := Go.Ground.phase }, { on := 7, ground := Go.Ground.phase }, { on := 8, ground := Go.Ground.phase }, { on := 9, ground := Go.Ground.phase }, { on := 10, ground := Go.Ground.phase }, { on := 11, ground := Go.Ground.phase }, { on := 12, ground := Go.Ground.phase }], guard := Option.none }) (v := ?_) rfl (by kernel_rfl) (by kernel_rfl) (by kernel_rfl) (fun _ _ _ h => h) (Or.inl ⟨by rfl, ?_⟩) (by assumption) ?_
  rotate_left
  · (intro w hSw; (try dsimp only at hSw); go_simp; try with_reducible rfl)
  try simp only [Act.put, List.setIfInBounds_toArray, List.set_cons_zero, List.set_cons_succ]
  refine wpAnyH_done (by kernel_rfl) ?_ _
  go_wp2_with fail
  go_ret
  exact ⟨rfl, S', X', HP4.out.1, HP4.out.2.1, HL4.out, HP4.out.2.2⟩
set_option maxRecDepth 100000 in
set_option maxHeartbeats 3200000 in
theorem does_5 (base d r : Nat) (S : DS) (X : RDS) (w : World) (h : Pair w base d r S X) (hs : Sim S X) (hfew : S.E.length < 4000) (nn : Int) (a to b : List UInt8) (A : Option Addr) (c : Nat)
    (hx : StOk w base ⟨5, nn, a, to, b, A, c⟩) (hlen : stLen ⟨5, nn, a, to, b, A, c⟩ ≤ 8000)  :
    Calls Try.prog 26 #[.pointer (some ⟨d, 0, none⟩), .pointer (some ⟨r, 0, none⟩), .agg #[.int .i64 5, .int .i64 nn, .string (str a), .string (str to), .slice A b.length c]] w (RetDo base d r S.E.length w) := by
  obtain ⟨-, ⟨n1, n2⟩, ha, hto, ⟨hc1, hc2⟩, hb⟩ := hx
  simp only at n1 n2 ha hto hc1 hc2 hb
  unfold stLen at hlen
  simp only at hlen
  obtain ⟨W1, hW1⟩ : ∃ W1, w.alloc (.cells #[.int .i64 5, .int .i64 nn, .string (str a), .string (str to), .slice A b.length c] 49) = W1 := ⟨_, rfl⟩
  have b1 : Below w.heap.size w W1 := by rw [← hW1]; exact below_refl_alloc _ _
  have pb : Blk W1 w.heap.size #[.int .i64 5, .int .i64 nn, .string (str a), .string (str to), .slice A b.length c] 49 := by rw [← hW1]; exact Blk.new _ _ _
  have p0 : W1.cell? ⟨w.heap.size, 0, none⟩ = some (.int .i64 5) := pb.cell 0
  have p1 : W1.cell? ⟨w.heap.size, 1, none⟩ = some (.int .i64 nn) := pb.cell 1
  have p2 : W1.cell? ⟨w.heap.size, 2, none⟩ = some (.string (str a)) := pb.cell 2
  have p3 : W1.cell? ⟨w.heap.size, 3, none⟩ = some (.string (str to)) := pb.cell 3
  have p4 : W1.cell? ⟨w.heap.size, 4, none⟩ = some (.slice A b.length c) := pb.cell 4
  have HP1 : Hid (Pair W1 base d r S X) := h.below b1
  have HB1 : Hid (Below base w W1) := b1.mono h.base_le
  have hpd : w.heap.size ∉ S.bl d := fun h9 => by have := (h.hD.ge _ h9).2; omega
  have hpx : w.heap.size ∉ X.bl r := fun h9 => by have := (h.hX.ge _ h9).2; omega
  have HN := Lib.hid (And.intro hpd hpx)
  have HPB := Lib.hid pb
  have HX := Lib.hid (And.intro ha (And.intro hto (And.intro hc1 (And.intro hc2 hb))))
  have HS := Lib.hid hs
  have HW := Lib.hid (And.intro h.base_le hfew)
  clear hpd hpx pb b1 h hs ha hto hc1 hc2 hb hfew
  go_enter Try.func26, Try.ntmps26
  go_wp2_with fail
  refine wp_region_held_drew (S := fun w' => w'.cell? ⟨w.heap.size, 2, none⟩ = some (.string (str a))) (by kernel_rfl) (p2) (fun hHeld => ?_)
  obtain ⟨w2, hw2⟩ : ∃ w2, W1.drew = w2 := ⟨_, rfl⟩
  rw [hw2] at hHeld ⊢
  have b12 : Below W1.heap.size W1 w2 := by rw [← hw2]; exact ⟨rfl, rfl, rfl, Nat.le_refl _, fun _ _ => rfl⟩
  have HP2 : Hid (Pair w2 base d r S X) := HP1.out.below b12
  have HB2 : Hid (Below base w w2) := HB1.out.trans (b12.mono (Nat.le_trans HW.out.1 HB1.out.size))
  have hpl : w.heap.size < w2.heap.size := Nat.lt_of_lt_of_le HPB.out.lt b12.size
  have HC1 := Lib.hid (remove_any base d S w2 HP2.out.hD a HX.out.1)
  clear hw2 b12
  refine wpAnyH_take (i := 0) (oi := { dst := Option.some 114, op := Go.Op.move (Go.Operand.tmp 0), type := 25, pos := "law.go:105", after := #[], guard := Option.none }) (v := ?_) rfl (by kernel_rfl) (by kernel_rfl) (by kernel_rfl) (fun _ _ _ h => h) (Or.inl ⟨by rfl, ?_⟩) (by assumption) ?_
  rotate_left
  · (intro w hSw; (try dsimp only at hSw); go_simp; try with_reducible rfl)
  try simp only [Act.put, List.setIfInBounds_toArray, List.set_cons_zero, List.set_cons_succ]
  refine wpAnyH_take (i := 1) (oi := { dst := Option.some 115, op := Go.Op.fieldAddr 49 (Go.Operand.tmp 5) 2, type := 0, pos := "law.go:105", after := #[], guard := Option.none }) (v := ?_) rfl (by kernel_rfl) (by kernel_rfl) (by kernel_rfl) (fun _ _ _ h => h) (Or.inl ⟨by rfl, ?_⟩) (by assumption) ?_
  rotate_left
  · (intro w hSw; (try dsimp only at hSw); go_simp; try with_reducible rfl)
  try simp only [Act.put, List.setIfInBounds_toArray, List.set_cons_zero, List.set_cons_succ]
  refine wpAnyH_take (i := 2) (oi := { dst := Option.some 116, op := Go.Op.load 9 (Go.Operand.tmp 115), type := 9, pos := "law.go:105", after := #[{ on := 1, ground := Go.Ground.data }], guard := Option.none }) (v := ?_) rfl (by kernel_rfl) (by kernel_rfl) (by kernel_rfl) (fun _ _ _ h => h) (Or.inl ⟨by rfl, ?_⟩) (by assumption) ?_
  rotate_left
  · (intro w hSw; (try dsimp only at hSw); go_simp; try with_reducible rfl)
  try simp only [Act.put, List.setIfInBounds_toArray, List.set_cons_zero, List.set_cons_succ]
  refine wpAnyH_take (i := 4) (oi := { dst := Option.some 118, op := Go.Op.move (Go.Operand.tmp 1), type := 45, pos := "law.go:105", after := #[], guard := Option.none }) (v := ?_) rfl (by kernel_rfl) (by kernel_rfl) (by kernel_rfl) (fun _ _ _ h => h) (Or.inl ⟨by rfl, ?_⟩) (by assumption) ?_
  rotate_left
  · (intro w hSw; (try dsimp only at hSw); go_simp; try with_reducible rfl)
  try simp only [Act.put, List.setIfInBounds_toArray, List.set_cons_zero, List.set_cons_succ]
  refine wpAnyH_take (i := 5) (oi := { dst := Option.some 119, op := Go.Op.fieldAddr 49 (Go.Operand.tmp 5) 2, type := 0, pos := "law.go:105", after := #[], guard := Option.none }) (v := ?_) rfl (by kernel_rfl) (by kernel_rfl) (by kernel_rfl) (fun _ _ _ h => h) (Or.inl ⟨by rfl, ?_⟩) (by assumption) ?_
  rotate_left
  · (intro w hSw; (try dsimp only at hSw); go_simp; try with_reducible rfl)
  try simp only [Act.put, List.setIfInBounds_toArray, List.set_cons_zero, List.set_cons_succ]
  refine wpAnyH_take (i := 6) (oi := { dst := Option.some 120, op := Go.Op.load 9 (Go.Operand.tmp 119), type := 9, pos := "law.go:105", after := #[{ on := 5, ground := Go.Ground.data }], guard := Option.none }) (v := ?_) rfl (by kernel_rfl) (by kernel_rfl) (by kernel_rfl) (fun _ _ _ h => h) (Or.inl ⟨by rfl, ?_⟩) (by assumption) ?_
  rotate_left
  · (intro w hSw; (try dsimp only at hSw); go_simp; try with_reducible rfl)
  try simp only [Act.put, List.setIfInBounds_toArray, List.set_cons_zero, List.set_cons_succ]
  refine wpAnyH_ready (rs := [3]) (by kernel_rfl) (by simp) ?_
  refine AllReadyH.cons (o := { dst := Option.some 117, op := Go.Op.call { callee := Go.Callee.value (Go.Operand.func 18), args := #[Go.Operand.tmp 114, Go.Operand.tmp 116], argTypes := #[25, 9] }, type := 26, pos := "law.go:105", after := #[{ on := 0, ground := Go.Ground.data }, { on := 2, ground := Go.Ground.data }], guard := Option.none }) rfl (fun K hK => ?_) AllReadyH.nil
  go_simp
  refine (unhide3 HC1).mono ?_
  rintro en w3 ⟨c3, S', rfl, hR, hD, hT, hin⟩
  obtain ⟨hp3, hb3⟩ := HP2.out.stepD hD hT hin
  have hpqw3 : w3.heap[w.heap.size]? = w2.heap[w.heap.size]? := hT.block _ hpl HN.out.1
  have hH3 : w3.cell? ⟨w.heap.size, 2, none⟩ = some (.string (str a)) := (World.cell?_of_block hpqw3).trans hHeld
  have hpl3 : w.heap.size < w3.heap.size := Nat.lt_of_lt_of_le hpl hb3.size
  have HC2 := Lib.hid (rremove_any base r X w3 hp3.hX a HX.out.1)
  have HP3 := Lib.hid hp3
  have HR3 := Lib.hid hR
  have HB3 : Hid (Below base w w3) := HB2.out.trans hb3
  clear hp3 hR hD hT hin hb3 hpqw3 HC1
  go_wp2_with fail
  refine hK.out _ _ (hH3) (fun hHeld => ?_)
  clear hK K
  try simp only [Act.put, List.setIfInBounds_toArray, List.set_cons_zero, List.set_cons_succ]
  refine wpAnyH_ready (rs := [7]) (by kernel_rfl) (by simp) ?_
  refine AllReadyH.cons (o := { dst := Option.some 121, op := Go.Op.call { callee := Go.Callee.value (Go.Operand.func 42), args := #[Go.Operand.tmp 118, Go.Operand.tmp 120], argTypes := #[45, 9] }, type := 3, pos := "law.go:105", after := #[{ on := 4, ground := Go.Ground.data }, { on := 6, ground := Go.Ground.data }, { on := 3, ground := Go.Ground.chain }], guard := Option.none }) rfl (fun K hK => ?_) AllReadyH.nil
  go_simp
  refine (unhide3 HC2).mono ?_
  rintro en w4 ⟨c4, X', rfl, hR, hD, hT, hin⟩
  obtain ⟨hp4, hb4⟩ := HP3.out.stepX hD hT hin
  have hpqw4 : w4.heap[w.heap.size]? = w3.heap[w.heap.size]? := hT.block _ hpl3 HN.out.2
  have hH4 : w4.cell? ⟨w.heap.size, 2, none⟩ = some (.string (str a)) := (World.cell?_of_block hpqw4).trans hH3
  obtain ⟨rfl, hsim⟩ := sim_remove HS.out HR3.out hR
  have HP4 := Lib.hid (And.intro hp4 (And.intro hsim (HB3.out.trans hb4)))
  have HL4 : Hid (S'.E.length ≤ S.E.length + 1) := len_remove HR3.out
  have q9 : ((c3 : Int) == (c3 : Int)) = true := by simp
  clear hp4 hsim hR hD hT hin hb4 hpqw4 HC2
  go_wp2_with fail
  refine hK.out _ _ (hH4) (fun hHeld => ?_)
  clear hK K
  try simp only [Act.put, List.setIfInBounds_toArray, List.set_cons_zero, List.set_cons_succ]
  refine wpAnyH_take (i := 8) (oi := { dst := Option.some 122, op := Go.Op.binOp Go.BinOp.eql 3 (Go.Operand.tmp 117) (Go.Operand.tmp 121) 3, type := 4, pos := "law.go:105", after := #[{ on := 3, ground := Go.Ground.data }, { on := 7, ground := Go.Ground.data }], guard := Option.none }) (v := ?_) rfl (by kernel_rfl) (by kernel_rfl) (by kernel_rfl) (fun _ _ _ h => h) (Or.inl ⟨by rfl, ?_⟩) (by assumption) ?_
  rotate_left
  · (intro w hSw; (try dsimp only at hSw); go_simp; try with_reducible rfl)
  try simp only [Act.put, List.setIfInBounds_toArray, List.set_cons_zero, List.set_cons_succ]
  refine wpAnyH_take (i := 9) (oi := { dst := Option.some 6, op := Go.Op.assign (Go.Operand.tmp 122), type := 4, pos := "law.go:105", after := #[{ on := 8, ground := Go.Ground.data }, { on := 7, ground := Go.Ground.chain }, { on := 0, ground := Go.Ground.phase }, { on := 1, ground := Go.Ground.phase }, { on := 2, ground := Go.Ground.phase }, { on := 3, ground := Go.Ground.phase }, { on := 4, ground := Go.Ground.phase }, { on := 5, ground := Go.Ground.phase }, { on := 6, ground := Go.Ground.phase }, { on := 7, ground := Go.Ground.phase }, { on := 8, ground := Go.Ground.phase }], guard := Option.none }) (v := ?_) rfl (by kernel_rfl) (by kernel_rfl) (by kernel_rfl) (fun _ _ _ h => h) (Or.inl ⟨by rfl, ?_⟩) (by assumption) ?_
  rotate_left
  · (intro w hSw; (try dsimp only at hSw); go_simp; try with_reducible rfl)
  try simp only [Act.put, List.setIfInBounds_toArray, List.set_cons_zero, List.set_cons_succ]
  refine wpAnyH_done (by kernel_rfl) ?_ _
  go_wp2_with fail
  go_ret
  exact ⟨rfl, S', X', HP4.out.1, HP4.out.2.1, HL4.out, HP4.out.2.2⟩
set_option maxRecDepth 100000 in
set_option maxHeartbeats 3200000 in
theorem does_6 (base d r : Nat) (S : DS) (X : RDS) (w : World) (h : Pair w base d r S X) (hs : Sim S X) (hfew : S.E.length < 4000) (nn : Int) (a to b : List UInt8) (A : Option Addr) (c : Nat)
    (hx : StOk w base ⟨6, nn, a, to, b, A, c⟩) (hlen : stLen ⟨6, nn, a, to, b, A, c⟩ ≤ 8000)  :
    Calls Try.prog 26 #[.pointer (some ⟨d, 0, none⟩), .pointer (some ⟨r, 0, none⟩), .agg #[.int .i64 6, .int .i64 nn, .string (str a), .string (str to), .slice A b.length c]] w (RetDo base d r S.E.length w) := by
  obtain ⟨-, ⟨n1, n2⟩, ha, hto, ⟨hc1, hc2⟩, hb⟩ := hx
  simp only at n1 n2 ha hto hc1 hc2 hb
  unfold stLen at hlen
  simp only at hlen
  obtain ⟨W1, hW1⟩ : ∃ W1, w.alloc (.cells #[.int .i64 6, .int .i64 nn, .string (str a), .string (str to), .slice A b.length c] 49) = W1 := ⟨_, rfl⟩
  have b1 : Below w.heap.size w W1 := by rw [← hW1]; exact below_refl_alloc _ _
  have pb : Blk W1 w.heap.size #[.int .i64 6, .int .i64 nn, .string (str a), .string (str to), .slice A b.length c] 49 := by rw [← hW1]; exact Blk.new _ _ _
  have p0 : W1.cell? ⟨w.heap.size, 0, none⟩ = some (.int .i64 6) := pb.cell 0
  have p1 : W1.cell? ⟨w.heap.size, 1, none⟩ = some (.int .i64 nn) := pb.cell 1
  have p2 : W1.cell? ⟨w.heap.size, 2, none⟩ = some (.string (str a)) := pb.cell 2
  have p3 : W1.cell? ⟨w.heap.size, 3, none⟩ = some (.string (str to)) := pb.cell 3
  have p4 : W1.cell? ⟨w.heap.size, 4, none⟩ = some (.slice A b.length c) := pb.cell 4
  have HP1 : Hid (Pair W1 base d r S X) := h.below b1
  have HB1 : Hid (Below base w W1) := b1.mono h.base_le
  have hpd : w.heap.size ∉ S.bl d := fun h9 => by have := (h.hD.ge _ h9).2; omega
  have hpx : w.heap.size ∉ X.bl r := fun h9 => by have := (h.hX.ge _ h9).2; omega
  have HN := Lib.hid (And.intro hpd hpx)
  have HPB := Lib.hid pb
  have HX := Lib.hid (And.intro ha (And.intro hto (And.intro hc1 (And.intro hc2 hb))))
  have HS := Lib.hid hs
  have HW := Lib.hid (And.intro h.base_le hfew)
  clear hpd hpx pb b1 h hs ha hto hc1 hc2 hb hfew
  have HC1 := Lib.hid (fuse_any base d S W1 HP1.out.hD nn n1 n2)
  go_enter Try.func26, Try.ntmps26
  go_wp2_with fail
  refine (unhide3 HC1).mono ?_
  rintro en w3 ⟨rfl, hD, hT⟩
  have hT' : Turn (S.bl d) W1 w3 := (Turn.refl (S.bl d) W1).trans hT (fun i hi => .inl (by simp at hi; subst hi; exact bl_d _ _))
  have hin : ∀ i ∈ (fuseS S nn).bl d, i ∈ S.bl d ∨ W1.heap.size ≤ i := fun i hi => .inl hi
  have HLN : Hid ((fuseS S nn).E.length ≤ S.E.length + 1) := Nat.le_succ _
  obtain ⟨hp3, hb3⟩ := HP1.out.stepD hD hT' hin
  have hpq : w3.heap[w.heap.size]? = W1.heap[w.heap.size]? := hT'.block _ HPB.out.lt HN.out.1
  have p13 : w3.cell? ⟨w.heap.size, 1, none⟩ = some (.int .i64 nn) := (World.cell?_of_block hpq).trans p1
  have HC2 := Lib.hid (rfuse_any base r X w3 hp3.hX nn n1 n2)
  have HP3 := Lib.hid hp3
  have HB3 : Hid (Below base w w3) := HB1.out.trans hb3
  clear hp3 hD hT hT' hin hb3 hpq HC1 p0 p1 p2 p3 p4 hW1
  go_wp2_with fail
  refine (unhide3 HC2).mono ?_
  rintro en w4 ⟨rfl, hX, hT⟩
  obtain ⟨X', hX'⟩ : ∃ X' : RDS, X' = { X with left := if -1 < nn then nn else -1 } := ⟨_, rfl⟩
  rw [← hX'] at hX
  obtain ⟨hp4, hb4⟩ := HP3.out.stepX hX hT (fun i hi => by rw [hX'] at hi; exact .inl hi)
  have hsim : Sim (fuseS S nn) X' := by rw [hX']; exact sim_fuse HS.out nn
  clear hX hT hX'
  go_wp2_with fail
  go_ret
  exact ⟨rfl, _, X', hp4, hsim, HLN.out, HB3.out.trans hb4⟩
theorem crashS_bl (S : DS) (n : Int) (d : Nat) : (crashS S n).bl d = S.bl d := by
  have h := cutS_bl n.toNat (fun _ => false) S d
  rw [cutS_none _ _ _ (fun _ => rfl)] at h
  exact h
set_option maxRecDepth 100000 in
set_option maxHeartbeats 3200000 in
theorem does_7 (base d r : Nat) (S : DS) (X : RDS) (w : World) (h : Pair w base d r S X) (hs : Sim S X) (hfew : S.E.length < 4000) (nn : Int) (a to b : List UInt8) (A : Option Addr) (c : Nat)
    (hx : StOk w base ⟨7, nn, a, to, b, A, c⟩) (hlen : stLen ⟨7, nn, a, to, b, A, c⟩ ≤ 8000)  :
    Calls Try.prog 26 #[.pointer (some ⟨d, 0, none⟩), .pointer (some ⟨r, 0, none⟩), .agg #[.int .i64 7, .int .i64 nn, .string (str a), .string (str to), .slice A b.length c]] w (RetDo base d r S.E.length w) := by
  obtain ⟨-, ⟨n1, n2⟩, ha, hto, ⟨hc1, hc2⟩, hb⟩ := hx
  simp only at n1 n2 ha hto hc1 hc2 hb
  unfold stLen at hlen
  simp only at hlen
  obtain ⟨W1, hW1⟩ : ∃ W1, w.alloc (.cells #[.int .i64 7, .int .i64 nn, .string (str a), .string (str to), .slice A b.length c] 49) = W1 := ⟨_, rfl⟩
  have b1 : Below w.heap.size w W1 := by rw [← hW1]; exact below_refl_alloc _ _
  have pb : Blk W1 w.heap.size #[.int .i64 7, .int .i64 nn, .string (str a), .string (str to), .slice A b.length c] 49 := by rw [← hW1]; exact Blk.new _ _ _
  have p0 : W1.cell? ⟨w.heap.size, 0, none⟩ = some (.int .i64 7) := pb.cell 0
  have p1 : W1.cell? ⟨w.heap.size, 1, none⟩ = some (.int .i64 nn) := pb.cell 1
  have p2 : W1.cell? ⟨w.heap.size, 2, none⟩ = some (.string (str a)) := pb.cell 2
  have p3 : W1.cell? ⟨w.heap.size, 3, none⟩ = some (.string (str to)) := pb.cell 3
  have p4 : W1.cell? ⟨w.heap.size, 4, none⟩ = some (.slice A b.length c) := pb.cell 4
  have HP1 : Hid (Pair W1 base d r S X) := h.below b1
  have HB1 : Hid (Below base w W1) := b1.mono h.base_le
  have hpd : w.heap.size ∉ S.bl d := fun h9 => by have := (h.hD.ge _ h9).2; omega
  have hpx : w.heap.size ∉ X.bl r := fun h9 => by have := (h.hX.ge _ h9).2; omega
  have HN := Lib.hid (And.intro hpd hpx)
  have HPB := Lib.hid pb
  have HX := Lib.hid (And.intro ha (And.intro hto (And.intro hc1 (And.intro hc2 hb))))
  have HS := Lib.hid hs
  have HW := Lib.hid (And.intro h.base_le hfew)
  clear hpd hpx pb b1 h hs ha hto hc1 hc2 hb hfew
  have HC1 := Lib.hid (crash_any base d S W1 HP1.out.hD nn n1 n2)
  go_enter Try.func26, Try.ntmps26
  go_wp2_with fail
  refine (unhide3 HC1).mono ?_
  rintro en w3 ⟨rfl, hD, hT⟩
  have hT' : Turn (S.bl d) W1 w3 := hT
  have hin : ∀ i ∈ (crashS S nn).bl d, i ∈ S.bl d ∨ W1.heap.size ≤ i := fun i hi => .inl (by rw [crashS_bl] at hi; exact hi)
  have HLN : Hid ((crashS S nn).E.length ≤ S.E.length + 1) := by show (S.E.map _).length ≤ _; rw [List.length_map]; omega
  obtain ⟨hp3, hb3⟩ := HP1.out.stepD hD hT' hin
  have hpq : w3.heap[w.heap.size]? = W1.heap[w.heap.size]? := hT'.block _ HPB.out.lt HN.out.1
  have p13 : w3.cell? ⟨w.heap.size, 1, none⟩ = some (.int .i64 nn) := (World.cell?_of_block hpq).trans p1
  have HC2 := Lib.hid (rcrash_any base r X w3 hp3.hX nn nn.toNat (by split <;> omega) n2)
  have HP3 := Lib.hid hp3
  have HB3 : Hid (Below base w w3) := HB1.out.trans hb3
  clear hp3 hD hT hT' hin hb3 hpq HC1 p0 p1 p2 p3 p4 hW1
  go_wp2_with fail
  refine (unhide3 HC2).mono ?_
  rintro en w4 ⟨rfl, X', e1, e2, e3, hX, hT, hin⟩
  obtain ⟨hp4, hb4⟩ := HP3.out.stepX hX hT hin
  have hsim : Sim (crashS S nn) X' := sim_crash HS.out nn e1 e2 e3
  clear hX hT hin e1 e2 e3
  go_wp2_with fail
  go_ret
  exact ⟨rfl, _, X', hp4, hsim, HLN.out, HB3.out.trans hb4⟩
theorem read_code (base d : Nat) (S : DS) (w : World) (h : DW w base d S) (s : List UInt8) (hs : s.length ≤ 140737488351232) (m : Nat) (code : Int) (hm : m = (cont S s).length) (hc : code = if (getE s S.E).isSome then 0 else 7) :
    Calls Try.prog 14 #[.pointer (some ⟨d, 0, none⟩), .string (str s)] w (fun en w' => ∃ A c, en = .returned (.tuple #[.slice A m c, .int .i64 code]) ∧ Row w' (.slice A m c) (cont S s) ∧ (∀ i, (Value.slice A m c).ownBlock = some i → w.heap.size ≤ i) ∧ Below w.heap.size w w' ∧ m ≤ c ∧ c ≤ 9223372036854775807) := by
  subst hm; subst hc
  rcases he : getE s S.E with _ | e
  · refine (read_none base d S w h s hs he).mono ?_
    rintro en w' ⟨rfl, rfl⟩
    unfold cont
    rw [he]
    exact ⟨none, 0, rfl, Row.nil _, fun i hi => by simp [Value.ownBlock] at hi, Below.refl _ _, by simp, by omega⟩
  · refine (read_some base d S w h s hs e he).mono ?_
    rintro en w' ⟨A, c, rfl, o, b, h1, h2⟩
    unfold cont
    rw [he]
    exact ⟨A, c, rfl, row_of_own o, fun i hi => (o.lt i hi).1, b, h1, h2⟩
theorem cont_le {S : DS} {X : RDS} (h : Sim S X) (s : List UInt8) : (cont S s).length ≤ S.used := by
  unfold cont
  rcases he : getE s S.E with _ | e
  · simp
  · exact mem_le_sum (getE_mem he).1
set_option maxRecDepth 100000 in
set_option maxHeartbeats 3200000 in
theorem does_d (base d r : Nat) (S : DS) (X : RDS) (w : World) (h : Pair w base d r S X) (hs : Sim S X) (hfew : S.E.length < 4000) (kk nn : Int) (a to b : List UInt8) (A : Option Addr) (c : Nat)
    (hx : StOk w base ⟨kk, nn, a, to, b, A, c⟩) (hlen : stLen ⟨kk, nn, a, to, b, A, c⟩ ≤ 8000) (hk : (kk == 1) = false ∧ (kk == 2) = false ∧ (kk == 3) = false ∧ (kk == 4) = false ∧ (kk == 5) = false ∧ (kk == 6) = false ∧ (kk == 7) = false) :
    Calls Try.prog 26 #[.pointer (some ⟨d, 0, none⟩), .pointer (some ⟨r, 0, none⟩), .agg #[.int .i64 kk, .int .i64 nn, .string (str a), .string (str to), .slice A b.length c]] w (RetDo base d r S.E.length w) := by
  obtain ⟨-, ⟨n1, n2⟩, ha, hto, ⟨hc1, hc2⟩, hb⟩ := hx
  simp only at n1 n2 ha hto hc1 hc2 hb
  unfold stLen at hlen
  simp only at hlen
  obtain ⟨W1, hW1⟩ : ∃ W1, w.alloc (.cells #[.int .i64 kk, .int .i64 nn, .string (str a), .string (str to), .slice A b.length c] 49) = W1 := ⟨_, rfl⟩
  have b1 : Below w.heap.size w W1 := by rw [← hW1]; exact below_refl_alloc _ _
  have pb : Blk W1 w.heap.size #[.int .i64 kk, .int .i64 nn, .string (str a), .string (str to), .slice A b.length c] 49 := by rw [← hW1]; exact Blk.new _ _ _
  have p0 : W1.cell? ⟨w.heap.size, 0, none⟩ = some (.int .i64 kk) := pb.cell 0
  have p1 : W1.cell? ⟨w.heap.size, 1, none⟩ = some (.int .i64 nn) := pb.cell 1
  have p2 : W1.cell? ⟨w.heap.size, 2, none⟩ = some (.string (str a)) := pb.cell 2
  have p3 : W1.cell? ⟨w.heap.size, 3, none⟩ = some (.string (str to)) := pb.cell 3
  have p4 : W1.cell? ⟨w.heap.size, 4, none⟩ = some (.slice A b.length c) := pb.cell 4
  have HP1 : Hid (Pair W1 base d r S X) := h.below b1
  have HB1 : Hid (Below base w W1) := b1.mono h.base_le
  have hpd : w.heap.size ∉ S.bl d := fun h9 => by have := (h.hD.ge _ h9).2; omega
  have hpx : w.heap.size ∉ X.bl r := fun h9 => by have := (h.hX.ge _ h9).2; omega
  have HN := Lib.hid (And.intro hpd hpx)
  have HPB := Lib.hid pb
  have HX := Lib.hid (And.intro ha (And.intro hto (And.intro hc1 (And.intro hc2 hb))))
  have HS := Lib.hid hs
  have HW := Lib.hid (And.intro h.base_le hfew)
  clear hpd hpx pb b1 h hs ha hto hc1 hc2 hb hfew
  obtain ⟨e1, e2, e3, e4, e5, e6, e7⟩ := hk
  obtain ⟨m, hm⟩ : ∃ m, m = (cont S a).length := ⟨_, rfl⟩
  obtain ⟨code, hco⟩ : ∃ code : Int, code = if (getE a S.E).isSome then 0 else 7 := ⟨_, rfl⟩
  have HC1 := Lib.hid (read_code base d S W1 HP1.out.hD a HX.out.1 m code hm hco)
  have HM := Lib.hid hm
  have hsc := sim_cont HS.out a
  have hm9 : m ≤ 1073741824 := by
    have h1 := HP1.out.hD.room
    have h2 := cont_le HS.out a
    omega
  have HC2 : Hid (∀ W, Pair W base d r S X → Calls Try.prog 45 #[.pointer (some ⟨r, 0, none⟩), .string (str a)] W (fun en w' => ∃ A c, en = .returned (.tuple #[.slice A m c, .int .i64 code]) ∧ Row w' (.slice A m c) (cont S a) ∧ Below W.heap.size W w' ∧ m ≤ c ∧ c ≤ 9223372036854775807)) := by
    show ∀ W, _
    intro W hW
    have h1 := rread_any base r X W hW.hX a
    unfold RetReadX at h1
    rw [← hsc.1, ← hsc.2, ← hm, ← hco] at h1
    exact h1
  have q9 : (code == code) = true := by simp
  clear hm hco hsc
  go_enter Try.func26, Try.ntmps26
  go_wp2_with fail
  refine (unhide3 HC1).mono ?_
  rintro en u1 ⟨B1, k1, rfl, r1, f1, b1, h1, h2⟩
  have hl0 : W1.heap.size ≤ u1.heap.size := b1.size
  have HP2 : Hid (Pair u1 base d r S X) := HP1.out.below b1
  have HB2 : Hid (Below base w u1) := HB1.out.trans (b1.mono (Nat.le_trans HW.out.1 HB1.out.size))
  have p21 : u1.cell? ⟨w.heap.size, 2, none⟩ = some (.string (str a)) := (b1.cell (p := ⟨w.heap.size, 2, none⟩) HPB.out.lt).trans p2
  have HC3 := Lib.hid (HC2.out u1 HP2.out)
  have HR1 := Lib.hid r1
  have HF1 : Hid (∀ i, (Value.slice B1 m k1).ownBlock = some i → i ∉ S.bl d ∧ i ∉ X.bl r ∧ base ≤ i) := fun i hi => ⟨fun h9 => by have := (HP1.out.hD.ge i h9).2; have := f1 i hi; omega, fun h9 => by have := (HP1.out.hX.ge i h9).2; have := f1 i hi; omega, by have := f1 i hi; have := HP1.out.base_le; omega⟩
  clear r1 f1 b1 HC1 HC2 p0 p1 p2 p3 p4 hW1
  go_wp2_with fail
  refine (unhide3 HC3).mono ?_
  rintro en u2 ⟨B2, k2, rfl, r2, b2, h3, h4⟩
  have HP3 : Hid (Pair u2 base d r S X) := HP2.out.below b2
  have HB3 : Hid (Below base w u2) := HB2.out.trans (b2.mono HP2.out.base_le)
  have HR2 : Hid (Row u2 (.slice B1 m k1) (cont S a)) := HR1.out.keep fun i hi => b2.block i (HR1.out.lt hi)
  have hsm := same3_any B1 B2 m k1 m k2 (cont S a) (cont S a) u2 HR2.out.bs r2.bs (by simp only [maxLen]; omega)
  rw [decide_eq_true rfl] at hsm
  have HSM := Lib.hid hsm
  clear r2 b2 hsm p21 HC3 HR1
  go_wp2_with fail
  refine (unhide3 HSM).mono ?_
  rintro en u3 ⟨rfl, b3⟩
  have HP4 : Hid (Pair u3 base d r S X) := HP3.out.below b3
  have HB4 : Hid (Below base w u3) := HB3.out.trans (b3.mono HP3.out.base_le)
  have HR3 : Hid (Row u3 (.slice B1 m k1) (cont S a)) := HR2.out.keep fun i hi => b3.block i (HR2.out.lt hi)
  have HSP := Lib.hid (spoil3_any B1 m k1 (cont S a) u3 HR3.out (by rw [← HM.out]; exact hm9))
  clear b3 HSM HR2
  go_wp2_with fail
  refine (unhide3 HSP).mono ?_
  rintro en u4 ⟨rfl, g4⟩
  have HP5 : Hid (Pair u4 base d r S X) := HP4.out.grown g4 (fun i hi h9 => (HF1.out i h9.symm).1 hi) (fun i hi h9 => (HF1.out i h9.symm).2.1 hi)
  have HB5 : Hid (Below base w u4) := HB4.out.trans ⟨g4.os, g4.tape, g4.output, g4.size, fun i hi => g4.block i (by have := HP4.out.base_le; omega) (fun h9 => by have := (HF1.out i h9.symm).2.2; omega)⟩
  clear g4 HSP
  go_wp2_with fail
  go_ret
  exact ⟨rfl, S, X, HP5.out, HS.out, Nat.le_succ _, HB5.out⟩
end Go.Proofs.Ytcoimlenejffpaa

/- ref disk: remove, Remove, Rename. -/
import Derived.Test.YtcoimlenejffpaaRdiskE
namespace Go.Proofs.Ytcoimlenejffpaa
set_option linter.all false
open Go.RowKit
def delX (X : RDS) (i : Nat) (A : Option Addr) (c : Nat) : RDS := { X with A := A, c := c, L := X.L.take i ++ X.L.drop (i + 1) }
def DelR (X : RDS) (s : List UInt8) (X' : RDS) : Prop := (spotB s X.L = false ∧ X' = X) ∨ (spotB s X.L = true ∧ ∃ A c, X' = delX X (spotI s X.L) A c)
def RetDel (base r : Nat) (X : RDS) (s : List UInt8) (w : World) (e : Ending) (w' : World) : Prop :=
  e = .returned (.tuple #[]) ∧ ∃ X', DelR X s X' ∧ RW w' base r X' ∧ Turn [r] w w' ∧ ∀ i ∈ X'.bl r, i ∈ X.bl r ∨ w.heap.size ≤ i
theorem delX_used (X : RDS) (i : Nat) : ((X.L.take i ++ X.L.drop (i + 1)).map fun f => f.b.length).sum ≤ X.used := by
  have h : X.used = ((X.L.take i ++ X.L.drop i).map fun f => f.b.length).sum := by unfold RDS.used; rw [List.take_append_drop]
  rw [h]
  simp only [List.map_append, List.sum_append]
  have h2 : ((X.L.drop (i + 1)).map fun f => f.b.length).sum ≤ ((X.L.drop i).map fun f => f.b.length).sum := by
    rw [show i + 1 = i + 1 from rfl, ← List.drop_drop]
    rcases X.L.drop i with _ | ⟨x, r⟩
    · simp
    · simp
  omega
set_option maxRecDepth 100000 in
set_option maxHeartbeats 3200000 in
theorem rdel_none (base r : Nat) (X : RDS) (w : World) (h : RW w base r X) (s : List UInt8) (he : spotB s X.L = false) :
    Calls Try.prog 54 #[.pointer (some ⟨r, 0, none⟩), .string (str s)] w (RetDel base r X s w) := by
  have hsp := rspot_any base r X w h s
  rw [he] at hsp
  have HSP := Lib.hid hsp
  have HE := Lib.hid he
  have H := Lib.hid h
  clear h he hsp
  go_enter Try.func54, Try.ntmps54
  go_wp2_with fail
  refine (unhide3 HSP).mono ?_
  rintro en w1 ⟨rfl, nq, rfl⟩
  go_wp2_with fail
  go_end0
  exact ⟨rfl, X, .inl ⟨HE.out, rfl⟩, H.out.keep (fun _ _ => rfl) (Nat.le_refl _), (Turn.refl _ w).drewN nq, fun q hq => .inl hq⟩
set_option maxRecDepth 100000 in
set_option maxHeartbeats 3200000 in
theorem rdel_some (base r : Nat) (X : RDS) (w : World) (h : RW w base r X) (s : List UInt8) (he : spotB s X.L = true) :
    Calls Try.prog 54 #[.pointer (some ⟨r, 0, none⟩), .string (str s)] w (RetDel base r X s w) := by
  have hsp := rspot_any base r X w h s
  rw [he] at hsp
  obtain ⟨i, hi⟩ : ∃ i, spotI s X.L = i := ⟨_, rfl⟩
  have hlt : i < X.L.length := by
    have : spotB s X.L = true := he
    unfold spotB at this
    rw [hi] at this
    rcases hx : X.L[i]? with _ | f
    · rw [hx] at this; cases this
    · exact (List.getElem?_eq_some_iff.1 hx).1
  rw [hi] at hsp
  have HSP := Lib.hid hsp
  have HI := Lib.hid hi
  have HE := Lib.hid he
  have H := Lib.hid h
  have hfew := h.few
  have hcap := h.cap
  have hile2 : Hid (i ≤ X.L.length) := Nat.le_of_lt hlt
  have hlt2 : Hid (i + 1 ≤ X.L.length) := hlt
  obtain ⟨n, hn⟩ : ∃ n, n = X.L.length := ⟨_, rfl⟩
  have HN := Lib.hid hn
  rw [← hn] at hlt hfew hcap
  have hwrap : IntKind.i64.wrap ((i : Int) + 1) = (i : Int) + 1 := IntWalk.i64_in _ ⟨by omega, by omega⟩
  have q1 : (i : Int) ≤ (X.c : Int) := by omega
  have q2 : (0 : Int) ≤ (i : Int) := by omega
  have q3 : (i : Int) + 1 ≤ (n : Int) := by omega
  have q4 : (0 : Int) ≤ (i : Int) + 1 := by omega
  clear h he hsp hi hn
  go_enter Try.func54, Try.ntmps54
  go_wp2_with fail
  refine (unhide3 HSP).mono ?_
  rintro en w1 ⟨rfl, nq, hw1⟩
  have hd1 : RW w1 base r X := by rw [hw1]; exact H.out.keep (fun _ _ => rfl) (Nat.le_refl _)
  have HT1 : Hid (Turn [r] w w1) := by show Turn _ _ _; rw [hw1]; exact (Turn.refl _ w).drewN nq
  have HD1 := Lib.hid hd1
  clear hw1 hd1
  go_wp2_with fail
  refine wp_region_held_drew (S := fun _ => True) (by kernel_rfl) trivial (fun hHeld => ?_)
  obtain ⟨w2, hw2⟩ : ∃ w2, w1.drew = w2 := ⟨_, rfl⟩
  rw [hw2]
  have hd2 : RW w2 base r X := by rw [← hw2]; exact HD1.out.keep (fun _ _ => rfl) (Nat.le_refl _)
  have HT2 : Hid (Turn [r] w w2) := by show Turn _ _ _; rw [← hw2]; exact HT1.out.drewN 1
  have HD2 := Lib.hid hd2
  have c12 : w2.cell? ⟨r, 1, none⟩ = some (.slice X.A n X.c) := by have h9 := hd2.cell; unfold rdcells RDS.v at h9; have h8 := h9.cell 1; rw [← HN.out] at h8; exact h8
  have hrl : r < w2.heap.size := (hd2.ge r (rbl_r r X)).2
  clear hw2 hd2
  refine wpAnyH_take (i := 0) (oi := { dst := some 13, op := Go.Op.move (Go.Operand.tmp 0), type := 45, pos := "disk.go:122", after := #[], guard := none }) (v := ?_) rfl (by kernel_rfl) (by kernel_rfl) (by kernel_rfl) (fun _ _ _ h => h) (Or.inl ⟨by rfl, ?_⟩) (by assumption) ?_
  rotate_left
  · (intro w hSw; (try dsimp only at hSw); go_simp; try with_reducible rfl)
  try simp only [Act.put, List.setIfInBounds_toArray, List.set_cons_zero, List.set_cons_succ]
  refine wpAnyH_take (i := 2) (oi := { dst := some 15, op := Go.Op.move (Go.Operand.tmp 0), type := 45, pos := "disk.go:122", after := #[], guard := none }) (v := ?_) rfl (by kernel_rfl) (by kernel_rfl) (by kernel_rfl) (fun _ _ _ h => h) (Or.inl ⟨by rfl, ?_⟩) (by assumption) ?_
  rotate_left
  · (intro w hSw; (try dsimp only at hSw); go_simp; try with_reducible rfl)
  try simp only [Act.put, List.setIfInBounds_toArray, List.set_cons_zero, List.set_cons_succ]
  refine wpAnyH_take (i := 3) (oi := { dst := some 16, op := Go.Op.nilCheck (Go.Operand.tmp 15), type := 0, pos := "disk.go:122", after := #[{ on := 2, ground := Go.Ground.data }], guard := none }) (v := ?_) rfl (by kernel_rfl) (by kernel_rfl) (by kernel_rfl) (fun _ _ _ h => h) (Or.inl ⟨by rfl, ?_⟩) (by assumption) ?_
  rotate_left
  · (intro w hSw; (try dsimp only at hSw); go_simp; try with_reducible rfl)
  try simp only [Act.put, List.setIfInBounds_toArray, List.set_cons_zero, List.set_cons_succ]
  refine wpAnyH_take (i := 4) (oi := { dst := some 17, op := Go.Op.fieldAddr 76 (Go.Operand.tmp 16) 1, type := 0, pos := "disk.go:122", after := #[{ on := 3, ground := Go.Ground.data }], guard := none }) (v := ?_) rfl (by kernel_rfl) (by kernel_rfl) (by kernel_rfl) (fun _ _ _ h => h) (Or.inl ⟨by rfl, ?_⟩) (by assumption) ?_
  rotate_left
  · (intro w hSw; (try dsimp only at hSw); go_simp; try with_reducible rfl)
  try simp only [Act.put, List.setIfInBounds_toArray, List.set_cons_zero, List.set_cons_succ]
  refine wpAnyH_take (i := 6) (oi := { dst := some 19, op := Go.Op.move (Go.Operand.tmp 4), type := 3, pos := "disk.go:122", after := #[], guard := none }) (v := ?_) rfl (by kernel_rfl) (by kernel_rfl) (by kernel_rfl) (fun _ _ _ h => h) (Or.inl ⟨by rfl, ?_⟩) (by assumption) ?_
  rotate_left
  · (intro w hSw; (try dsimp only at hSw); go_simp; try with_reducible rfl)
  try simp only [Act.put, List.setIfInBounds_toArray, List.set_cons_zero, List.set_cons_succ]
  refine wpAnyH_take (i := 9) (oi := { dst := some 22, op := Go.Op.move (Go.Operand.tmp 0), type := 45, pos := "disk.go:122", after := #[], guard := none }) (v := ?_) rfl (by kernel_rfl) (by kernel_rfl) (by kernel_rfl) (fun _ _ _ h => h) (Or.inl ⟨by rfl, ?_⟩) (by assumption) ?_
  rotate_left
  · (intro w hSw; (try dsimp only at hSw); go_simp; try with_reducible rfl)
  try simp only [Act.put, List.setIfInBounds_toArray, List.set_cons_zero, List.set_cons_succ]
  refine wpAnyH_take (i := 10) (oi := { dst := some 23, op := Go.Op.nilCheck (Go.Operand.tmp 22), type := 0, pos := "disk.go:122", after := #[{ on := 9, ground := Go.Ground.data }], guard := none }) (v := ?_) rfl (by kernel_rfl) (by kernel_rfl) (by kernel_rfl) (fun _ _ _ h => h) (Or.inl ⟨by rfl, ?_⟩) (by assumption) ?_
  rotate_left
  · (intro w hSw; (try dsimp only at hSw); go_simp; try with_reducible rfl)
  try simp only [Act.put, List.setIfInBounds_toArray, List.set_cons_zero, List.set_cons_succ]
  refine wpAnyH_take (i := 11) (oi := { dst := some 24, op := Go.Op.fieldAddr 76 (Go.Operand.tmp 23) 1, type := 0, pos := "disk.go:122", after := #[{ on := 10, ground := Go.Ground.data }], guard := none }) (v := ?_) rfl (by kernel_rfl) (by kernel_rfl) (by kernel_rfl) (fun _ _ _ h => h) (Or.inl ⟨by rfl, ?_⟩) (by assumption) ?_
  rotate_left
  · (intro w hSw; (try dsimp only at hSw); go_simp; try with_reducible rfl)
  try simp only [Act.put, List.setIfInBounds_toArray, List.set_cons_zero, List.set_cons_succ]
  refine wpAnyH_take (i := 13) (oi := { dst := some 26, op := Go.Op.move (Go.Operand.tmp 4), type := 3, pos := "disk.go:122", after := #[], guard := none }) (v := ?_) rfl (by kernel_rfl) (by kernel_rfl) (by kernel_rfl) (fun _ _ _ h => h) (Or.inl ⟨by rfl, ?_⟩) (by assumption) ?_
  rotate_left
  · (intro w hSw; (try dsimp only at hSw); go_simp; try with_reducible rfl)
  try simp only [Act.put, List.setIfInBounds_toArray, List.set_cons_zero, List.set_cons_succ]
  refine wpAnyH_take (i := 14) (oi := { dst := some 27, op := Go.Op.binOp Go.BinOp.add 3 (Go.Operand.tmp 26) (Go.Operand.const (Go.Value.int Go.IntKind.i64 1)) 3, type := 3, pos := "disk.go:122", after := #[{ on := 13, ground := Go.Ground.data }], guard := none }) (v := ?_) rfl (by kernel_rfl) (by kernel_rfl) (by kernel_rfl) (fun _ _ _ h => h) (Or.inl ⟨by rfl, ?_⟩) (by assumption) ?_
  rotate_left
  · (intro w hSw; (try dsimp only at hSw); go_simp; try with_reducible rfl)
  try simp only [Act.put, List.setIfInBounds_toArray, List.set_cons_zero, List.set_cons_succ]
  refine wpAnyH_ready (rs := [1, 5, 12]) (by kernel_rfl) (by simp) ?_
  refine AllReadyH.cons (o := { dst := some 14, op := Go.Op.buildSlice 74 0 #[], type := 74, pos := "disk.go:122", after := #[], guard := none }) rfl (fun K hK => ?_) ?_
  go_simp
  obtain ⟨wA, hwA⟩ : ∃ wA, w2.alloc (.cells #[] 78) = wA := ⟨_, rfl⟩
  rw [hwA]
  have bA : Below w2.heap.size w2 wA := by rw [← hwA]; exact below_refl_alloc _ _
  have c1A : wA.cell? ⟨r, 1, none⟩ = some (.slice X.A n X.c) := (bA.cell (p := ⟨r, 1, none⟩) hrl).trans c12
  refine hK.out _ _ (trivial) (fun hHeld => ?_)
  clear hK K
  try simp only [Act.put, List.setIfInBounds_toArray, List.set_cons_zero, List.set_cons_succ]
  refine wpAnyH_ready (rs := [5, 12]) (by kernel_rfl) (by simp) ?_
  refine AllReadyH.cons (o := { dst := some 18, op := Go.Op.load 74 (Go.Operand.tmp 17), type := 74, pos := "disk.go:122", after := #[{ on := 4, ground := Go.Ground.data }], guard := none }) rfl (fun K hK => ?_) ?_
  go_simp
  refine hK.out _ _ (trivial) (fun hHeld => ?_)
  clear hK K
  try simp only [Act.put, List.setIfInBounds_toArray, List.set_cons_zero, List.set_cons_succ]
  refine wpAnyH_take (i := 7) (oi := { dst := some 20, op := Go.Op.slice 74 (Go.Operand.tmp 18) none (some (Go.Operand.tmp 19)) none, type := 74, pos := "disk.go:122", after := #[{ on := 5, ground := Go.Ground.data }, { on := 6, ground := Go.Ground.data }], guard := none }) (v := ?_) rfl (by kernel_rfl) (by kernel_rfl) (by kernel_rfl) (fun _ _ _ h => h) (Or.inl ⟨by rfl, ?_⟩) (by assumption) ?_
  rotate_left
  · (intro w hSw; (try dsimp only at hSw); go_simp; try with_reducible rfl)
  try simp only [Act.put, List.setIfInBounds_toArray, List.set_cons_zero, List.set_cons_succ]
  refine wpAnyH_ready (rs := [8, 12]) (by kernel_rfl) (by simp) ?_
  refine AllReadyH.cons (o := { dst := some 21, op := Go.Op.call { callee := Go.Callee.builtin Go.Builtin.append, args := #[Go.Operand.tmp 14, Go.Operand.tmp 20], argTypes := #[74, 74] }, type := 74, pos := "disk.go:122", after := #[{ on := 1, ground := Go.Ground.data }, { on := 7, ground := Go.Ground.data }], guard := none }) rfl (fun K hK => ?_) ?_
  rw [if_pos (by rfl)]
  refine wpF_append (.tmp 14) (.tmp 20) rfl w2.heap.size _ 0 [] rfl (by rw [← hwA]; exact own_empty w2 _ _) w2.heap.size X.A i X.c (X.L.take i) rfl ((HD2.out.rd_take hile2.out).below bA) i (X.L.take i) (by omega) rfl (by omega) bA.size ?_
  intro A8 c8 w8 o8 b8 hc8 hm8
  have b28 : Below w2.heap.size w2 w8 := bA.trans b8
  have c18 : w8.cell? ⟨r, 1, none⟩ = some (.slice X.A n X.c) := (b28.cell (p := ⟨r, 1, none⟩) hrl).trans c12
  refine hK.out _ _ (trivial) (fun hHeld => ?_)
  clear hK K
  try simp only [Act.put, List.setIfInBounds_toArray, List.set_cons_zero, List.set_cons_succ]
  refine wpAnyH_ready (rs := [12]) (by kernel_rfl) (by simp) ?_
  refine AllReadyH.cons (o := { dst := some 25, op := Go.Op.load 74 (Go.Operand.tmp 24), type := 74, pos := "disk.go:122", after := #[{ on := 11, ground := Go.Ground.data }], guard := none }) rfl (fun K hK => ?_) AllReadyH.nil
  go_simp
  refine hK.out _ _ (trivial) (fun hHeld => ?_)
  clear hK K
  try simp only [Act.put, List.setIfInBounds_toArray, List.set_cons_zero, List.set_cons_succ]
  refine wpAnyH_take (i := 15) (oi := { dst := some 28, op := Go.Op.slice 74 (Go.Operand.tmp 25) (some (Go.Operand.tmp 27)) none none, type := 74, pos := "disk.go:122", after := #[{ on := 12, ground := Go.Ground.data }, { on := 14, ground := Go.Ground.data }], guard := none }) (v := ?_) rfl (by kernel_rfl) (by kernel_rfl) (by kernel_rfl) (fun _ _ _ h => h) (Or.inl ⟨by rfl, ?_⟩) (by assumption) ?_
  rotate_left
  · (intro w hSw; (try dsimp only at hSw); go_simp; try with_reducible rfl)
  try simp only [Act.put, List.setIfInBounds_toArray, List.set_cons_zero, List.set_cons_succ]
  refine wpAnyH_ready (rs := [16]) (by kernel_rfl) (by simp) ?_
  refine AllReadyH.cons (o := { dst := some 29, op := Go.Op.call { callee := Go.Callee.builtin Go.Builtin.append, args := #[Go.Operand.tmp 21, Go.Operand.tmp 28], argTypes := #[74, 74] }, type := 74, pos := "disk.go:122", after := #[{ on := 8, ground := Go.Ground.data }, { on := 15, ground := Go.Ground.data }, { on := 8, ground := Go.Ground.chain }], guard := none }) rfl (fun K hK => ?_) AllReadyH.nil
  rw [if_pos (by rfl)]
  refine wpF_append (.tmp 21) (.tmp 28) rfl w2.heap.size _ i (X.L.take i) rfl o8 w2.heap.size (if X.c = i + 1 then X.A else X.A.map (·.add ((i + 1) * 3))) (n - (i + 1)) (X.c - (i + 1)) (X.L.drop (i + 1)) rfl (by have := (HD2.out.rd_cut (i := i + 1) hlt2.out); rw [← HN.out] at this; exact this.below b28) (i + (n - (i + 1))) (X.L.take i ++ X.L.drop (i + 1)) rfl rfl (by omega) b28.size ?_
  intro A9 c9 w9 o9 b9 hc9 hm9
  have b29 : Below w2.heap.size w2 w9 := b28.trans b9
  have c19 : w9.cell? ⟨r, 1, none⟩ = some (.slice X.A n X.c) := (b29.cell (p := ⟨r, 1, none⟩) hrl).trans c12
  have fz9 : w9.frozen? ⟨r, 1, none⟩ = false := (HD2.out.below b29).cell.free 1
  refine hK.out _ _ (trivial) (fun hHeld => ?_)
  clear hK K
  try simp only [Act.put, List.setIfInBounds_toArray, List.set_cons_zero, List.set_cons_succ]
  refine wpAnyH_take (i := 17) (oi := { dst := some 30, op := Go.Op.nilCheck (Go.Operand.tmp 13), type := 0, pos := "disk.go:122", after := #[{ on := 0, ground := Go.Ground.data }, { on := 0, ground := Go.Ground.phase }, { on := 1, ground := Go.Ground.phase }, { on := 2, ground := Go.Ground.phase }, { on := 3, ground := Go.Ground.phase }, { on := 4, ground := Go.Ground.phase }, { on := 5, ground := Go.Ground.phase }, { on := 6, ground := Go.Ground.phase }, { on := 7, ground := Go.Ground.phase }, { on := 8, ground := Go.Ground.phase }, { on := 9, ground := Go.Ground.phase }, { on := 10, ground := Go.Ground.phase }, { on := 11, ground := Go.Ground.phase }, { on := 12, ground := Go.Ground.phase }, { on := 13, ground := Go.Ground.phase }, { on := 14, ground := Go.Ground.phase }, { on := 15, ground := Go.Ground.phase }, { on := 16, ground := Go.Ground.phase }], guard := none }) (v := ?_) rfl (by kernel_rfl) (by kernel_rfl) (by kernel_rfl) (fun _ _ _ h => h) (Or.inl ⟨by rfl, ?_⟩) (by assumption) ?_
  rotate_left
  · (intro w hSw; (try dsimp only at hSw); go_simp; try with_reducible rfl)
  try simp only [Act.put, List.setIfInBounds_toArray, List.set_cons_zero, List.set_cons_succ]
  refine wpAnyH_take (i := 18) (oi := { dst := some 31, op := Go.Op.fieldAddr 76 (Go.Operand.tmp 30) 1, type := 0, pos := "disk.go:122", after := #[{ on := 17, ground := Go.Ground.data }, { on := 0, ground := Go.Ground.phase }, { on := 1, ground := Go.Ground.phase }, { on := 2, ground := Go.Ground.phase }, { on := 3, ground := Go.Ground.phase }, { on := 4, ground := Go.Ground.phase }, { on := 5, ground := Go.Ground.phase }, { on := 6, ground := Go.Ground.phase }, { on := 7, ground := Go.Ground.phase }, { on := 8, ground := Go.Ground.phase }, { on := 9, ground := Go.Ground.phase }, { on := 10, ground := Go.Ground.phase }, { on := 11, ground := Go.Ground.phase }, { on := 12, ground := Go.Ground.phase }, { on := 13, ground := Go.Ground.phase }, { on := 14, ground := Go.Ground.phase }, { on := 15, ground := Go.Ground.phase }, { on := 16, ground := Go.Ground.phase }], guard := none }) (v := ?_) rfl (by kernel_rfl) (by kernel_rfl) (by kernel_rfl) (fun _ _ _ h => h) (Or.inl ⟨by rfl, ?_⟩) (by assumption) ?_
  rotate_left
  · (intro w hSw; (try dsimp only at hSw); go_simp; try with_reducible rfl)
  try simp only [Act.put, List.setIfInBounds_toArray, List.set_cons_zero, List.set_cons_succ]
  refine wpAnyH_ready (rs := [19]) (by kernel_rfl) (by simp) ?_
  refine AllReadyH.cons (o := { dst := none, op := Go.Op.store 74 (Go.Operand.tmp 31) (Go.Operand.tmp 29), type := 0, pos := "disk.go:122", after := #[{ on := 18, ground := Go.Ground.data }, { on := 16, ground := Go.Ground.data }, { on := 16, ground := Go.Ground.chain }, { on := 0, ground := Go.Ground.phase }, { on := 1, ground := Go.Ground.phase }, { on := 2, ground := Go.Ground.phase }, { on := 3, ground := Go.Ground.phase }, { on := 4, ground := Go.Ground.phase }, { on := 5, ground := Go.Ground.phase }, { on := 6, ground := Go.Ground.phase }, { on := 7, ground := Go.Ground.phase }, { on := 8, ground := Go.Ground.phase }, { on := 9, ground := Go.Ground.phase }, { on := 10, ground := Go.Ground.phase }, { on := 11, ground := Go.Ground.phase }, { on := 12, ground := Go.Ground.phase }, { on := 13, ground := Go.Ground.phase }, { on := 14, ground := Go.Ground.phase }, { on := 15, ground := Go.Ground.phase }, { on := 16, ground := Go.Ground.phase }], guard := none }) rfl (fun K hK => ?_) AllReadyH.nil
  go_simp
  obtain ⟨wS, hwS⟩ : ∃ wS, w9.setCell ⟨r, 1, none⟩ (.slice A9 (i + (n - (i + 1))) c9) = wS := ⟨_, rfl⟩
  rw [hwS]
  refine hK.out _ _ (trivial) (fun hHeld => ?_)
  clear hK K
  try simp only [Act.put, List.setIfInBounds_toArray, List.set_cons_zero, List.set_cons_succ]
  refine wpAnyH_done (by kernel_rfl) ?_ _
  rotate_left 1
  refine AllReadyH.cons (o := { dst := some 25, op := Go.Op.load 74 (Go.Operand.tmp 24), type := 74, pos := "disk.go:122", after := #[{ on := 11, ground := Go.Ground.data }], guard := none }) rfl (fun K hK => ?_) AllReadyH.nil
  go_simp
  refine hK.out _ _ (trivial) (fun hHeld => ?_)
  clear hK K
  try simp only [Act.put, List.setIfInBounds_toArray, List.set_cons_zero, List.set_cons_succ]
  refine wpAnyH_take (i := 15) (oi := { dst := some 28, op := Go.Op.slice 74 (Go.Operand.tmp 25) (some (Go.Operand.tmp 27)) none none, type := 74, pos := "disk.go:122", after := #[{ on := 12, ground := Go.Ground.data }, { on := 14, ground := Go.Ground.data }], guard := none }) (v := ?_) rfl (by kernel_rfl) (by kernel_rfl) (by kernel_rfl) (fun _ _ _ h => h) (Or.inl ⟨by rfl, ?_⟩) (by assumption) ?_
  rotate_left
  · (intro w hSw; (try dsimp only at hSw); go_simp; try with_reducible rfl)
  try simp only [Act.put, List.setIfInBounds_toArray, List.set_cons_zero, List.set_cons_succ]
  refine wpAnyH_ready (rs := [8]) (by kernel_rfl) (by simp) ?_
  refine AllReadyH.cons (o := { dst := some 21, op := Go.Op.call { callee := Go.Callee.builtin Go.Builtin.append, args := #[Go.Operand.tmp 14, Go.Operand.tmp 20], argTypes := #[74, 74] }, type := 74, pos := "disk.go:122", after := #[{ on := 1, ground := Go.Ground.data }, { on := 7, ground := Go.Ground.data }], guard := none }) rfl (fun K hK => ?_) AllReadyH.nil
  rw [if_pos (by rfl)]
  refine wpF_append (.tmp 14) (.tmp 20) rfl w2.heap.size _ 0 [] rfl (by rw [← hwA]; exact own_empty w2 _ _) w2.heap.size X.A i X.c (X.L.take i) rfl ((HD2.out.rd_take hile2.out).below bA) i (X.L.take i) (by omega) rfl (by omega) bA.size ?_
  intro A8 c8 w8 o8 b8 hc8 hm8
  have b28 : Below w2.heap.size w2 w8 := bA.trans b8
  have c18 : w8.cell? ⟨r, 1, none⟩ = some (.slice X.A n X.c) := (b28.cell (p := ⟨r, 1, none⟩) hrl).trans c12
  refine hK.out _ _ (trivial) (fun hHeld => ?_)
  clear hK K
  try simp only [Act.put, List.setIfInBounds_toArray, List.set_cons_zero, List.set_cons_succ]
  refine wpAnyH_ready (rs := [16]) (by kernel_rfl) (by simp) ?_
  refine AllReadyH.cons (o := { dst := some 29, op := Go.Op.call { callee := Go.Callee.builtin Go.Builtin.append, args := #[Go.Operand.tmp 21, Go.Operand.tmp 28], argTypes := #[74, 74] }, type := 74, pos := "disk.go:122", after := #[{ on := 8, ground := Go.Ground.data }, { on := 15, ground := Go.Ground.data }, { on := 8, ground := Go.Ground.chain }], guard := none }) rfl (fun K hK => ?_) AllReadyH.nil
  rw [if_pos (by rfl)]
  refine wpF_append (.tmp 21) (.tmp 28) rfl w2.heap.size _ i (X.L.take i) rfl o8 w2.heap.size (if X.c = i + 1 then X.A else X.A.map (·.add ((i + 1) * 3))) (n - (i + 1)) (X.c - (i + 1)) (X.L.drop (i + 1)) rfl (by have := (HD2.out.rd_cut (i := i + 1) hlt2.out); rw [← HN.out] at this; exact this.below b28) (i + (n - (i + 1))) (X.L.take i ++ X.L.drop (i + 1)) rfl rfl (by omega) b28.size ?_
  intro A9 c9 w9 o9 b9 hc9 hm9
  have b29 : Below w2.heap.size w2 w9 := b28.trans b9
  have c19 : w9.cell? ⟨r, 1, none⟩ = some (.slice X.A n X.c) := (b29.cell (p := ⟨r, 1, none⟩) hrl).trans c12
  have fz9 : w9.frozen? ⟨r, 1, none⟩ = false := (HD2.out.below b29).cell.free 1
  refine hK.out _ _ (trivial) (fun hHeld => ?_)
  clear hK K
  try simp only [Act.put, List.setIfInBounds_toArray, List.set_cons_zero, List.set_cons_succ]
  refine wpAnyH_take (i := 17) (oi := { dst := some 30, op := Go.Op.nilCheck (Go.Operand.tmp 13), type := 0, pos := "disk.go:122", after := #[{ on := 0, ground := Go.Ground.data }, { on := 0, ground := Go.Ground.phase }, { on := 1, ground := Go.Ground.phase }, { on := 2, ground := Go.Ground.phase }, { on := 3, ground := Go.Ground.phase }, { on := 4, ground := Go.Ground.phase }, { on := 5, ground := Go.Ground.phase }, { on := 6, ground := Go.Ground.phase }, { on := 7, ground := Go.Ground.phase }, { on := 8, ground := Go.Ground.phase }, { on := 9, ground := Go.Ground.phase }, { on := 10, ground := Go.Ground.phase }, { on := 11, ground := Go.Ground.phase }, { on := 12, ground := Go.Ground.phase }, { on := 13, ground := Go.Ground.phase }, { on := 14, ground := Go.Ground.phase }, { on := 15, ground := Go.Ground.phase }, { on := 16, ground := Go.Ground.phase }], guard := none }) (v := ?_) rfl (by kernel_rfl) (by kernel_rfl) (by kernel_rfl) (fun _ _ _ h => h) (Or.inl ⟨by rfl, ?_⟩) (by assumption) ?_
  rotate_left
  · (intro w hSw; (try dsimp only at hSw); go_simp; try with_reducible rfl)
  try simp only [Act.put, List.setIfInBounds_toArray, List.set_cons_zero, List.set_cons_succ]
  refine wpAnyH_take (i := 18) (oi := { dst := some 31, op := Go.Op.fieldAddr 76 (Go.Operand.tmp 30) 1, type := 0, pos := "disk.go:122", after := #[{ on := 17, ground := Go.Ground.data }, { on := 0, ground := Go.Ground.phase }, { on := 1, ground := Go.Ground.phase }, { on := 2, ground := Go.Ground.phase }, { on := 3, ground := Go.Ground.phase }, { on := 4, ground := Go.Ground.phase }, { on := 5, ground := Go.Ground.phase }, { on := 6, ground := Go.Ground.phase }, { on := 7, ground := Go.Ground.phase }, { on := 8, ground := Go.Ground.phase }, { on := 9, ground := Go.Ground.phase }, { on := 10, ground := Go.Ground.phase }, { on := 11, ground := Go.Ground.phase }, { on := 12, ground := Go.Ground.phase }, { on := 13, ground := Go.Ground.phase }, { on := 14, ground := Go.Ground.phase }, { on := 15, ground := Go.Ground.phase }, { on := 16, ground := Go.Ground.phase }], guard := none }) (v := ?_) rfl (by kernel_rfl) (by kernel_rfl) (by kernel_rfl) (fun _ _ _ h => h) (Or.inl ⟨by rfl, ?_⟩) (by assumption) ?_
  rotate_left
  · (intro w hSw; (try dsimp only at hSw); go_simp; try with_reducible rfl)
  try simp only [Act.put, List.setIfInBounds_toArray, List.set_cons_zero, List.set_cons_succ]
  refine wpAnyH_ready (rs := [19]) (by kernel_rfl) (by simp) ?_
  refine AllReadyH.cons (o := { dst := none, op := Go.Op.store 74 (Go.Operand.tmp 31) (Go.Operand.tmp 29), type := 0, pos := "disk.go:122", after := #[{ on := 18, ground := Go.Ground.data }, { on := 16, ground := Go.Ground.data }, { on := 16, ground := Go.Ground.chain }, { on := 0, ground := Go.Ground.phase }, { on := 1, ground := Go.Ground.phase }, { on := 2, ground := Go.Ground.phase }, { on := 3, ground := Go.Ground.phase }, { on := 4, ground := Go.Ground.phase }, { on := 5, ground := Go.Ground.phase }, { on := 6, ground := Go.Ground.phase }, { on := 7, ground := Go.Ground.phase }, { on := 8, ground := Go.Ground.phase }, { on := 9, ground := Go.Ground.phase }, { on := 10, ground := Go.Ground.phase }, { on := 11, ground := Go.Ground.phase }, { on := 12, ground := Go.Ground.phase }, { on := 13, ground := Go.Ground.phase }, { on := 14, ground := Go.Ground.phase }, { on := 15, ground := Go.Ground.phase }, { on := 16, ground := Go.Ground.phase }], guard := none }) rfl (fun K hK => ?_) AllReadyH.nil
  go_simp
  obtain ⟨wS, hwS⟩ : ∃ wS, w9.setCell ⟨r, 1, none⟩ (.slice A9 (i + (n - (i + 1))) c9) = wS := ⟨_, rfl⟩
  rw [hwS]
  refine hK.out _ _ (trivial) (fun hHeld => ?_)
  clear hK K
  try simp only [Act.put, List.setIfInBounds_toArray, List.set_cons_zero, List.set_cons_succ]
  refine wpAnyH_done (by kernel_rfl) ?_ _
  rotate_left 1
  refine AllReadyH.cons (o := { dst := some 25, op := Go.Op.load 74 (Go.Operand.tmp 24), type := 74, pos := "disk.go:122", after := #[{ on := 11, ground := Go.Ground.data }], guard := none }) rfl (fun K hK => ?_) AllReadyH.nil
  go_simp
  refine hK.out _ _ (trivial) (fun hHeld => ?_)
  clear hK K
  try simp only [Act.put, List.setIfInBounds_toArray, List.set_cons_zero, List.set_cons_succ]
  refine wpAnyH_take (i := 15) (oi := { dst := some 28, op := Go.Op.slice 74 (Go.Operand.tmp 25) (some (Go.Operand.tmp 27)) none none, type := 74, pos := "disk.go:122", after := #[{ on := 12, ground := Go.Ground.data }, { on := 14, ground := Go.Ground.data }], guard := none }) (v := ?_) rfl (by kernel_rfl) (by kernel_rfl) (by kernel_rfl) (fun _ _ _ h => h) (Or.inl ⟨by rfl, ?_⟩) (by assumption) ?_
  rotate_left
  · (intro w hSw; (try dsimp only at hSw); go_simp; try with_reducible rfl)
  try simp only [Act.put, List.setIfInBounds_toArray, List.set_cons_zero, List.set_cons_succ]
  refine wpAnyH_ready (rs := [5]) (by kernel_rfl) (by simp) ?_
  refine AllReadyH.cons (o := { dst := some 18, op := Go.Op.load 74 (Go.Operand.tmp 17), type := 74, pos := "disk.go:122", after := #[{ on := 4, ground := Go.Ground.data }], guard := none }) rfl (fun K hK => ?_) AllReadyH.nil
  go_simp
  refine hK.out _ _ (trivial) (fun hHeld => ?_)
  clear hK K
  try simp only [Act.put, List.setIfInBounds_toArray, List.set_cons_zero, List.set_cons_succ]
  refine wpAnyH_take (i := 7) (oi := { dst := some 20, op := Go.Op.slice 74 (Go.Operand.tmp 18) none (some (Go.Operand.tmp 19)) none, type := 74, pos := "disk.go:122", after := #[{ on := 5, ground := Go.Ground.data }, { on := 6, ground := Go.Ground.data }], guard := none }) (v := ?_) rfl (by kernel_rfl) (by kernel_rfl) (by kernel_rfl) (fun _ _ _ h => h) (Or.inl ⟨by rfl, ?_⟩) (by assumption) ?_
  rotate_left
  · (intro w hSw; (try dsimp only at hSw); go_simp; try with_reducible rfl)
  try simp only [Act.put, List.setIfInBounds_toArray, List.set_cons_zero, List.set_cons_succ]
  refine wpAnyH_ready (rs := [8]) (by kernel_rfl) (by simp) ?_
  refine AllReadyH.cons (o := { dst := some 21, op := Go.Op.call { callee := Go.Callee.builtin Go.Builtin.append, args := #[Go.Operand.tmp 14, Go.Operand.tmp 20], argTypes := #[74, 74] }, type := 74, pos := "disk.go:122", after := #[{ on := 1, ground := Go.Ground.data }, { on := 7, ground := Go.Ground.data }], guard := none }) rfl (fun K hK => ?_) AllReadyH.nil
  rw [if_pos (by rfl)]
  refine wpF_append (.tmp 14) (.tmp 20) rfl w2.heap.size _ 0 [] rfl (by rw [← hwA]; exact own_empty w2 _ _) w2.heap.size X.A i X.c (X.L.take i) rfl ((HD2.out.rd_take hile2.out).below bA) i (X.L.take i) (by omega) rfl (by omega) bA.size ?_
  intro A8 c8 w8 o8 b8 hc8 hm8
  have b28 : Below w2.heap.size w2 w8 := bA.trans b8
  have c18 : w8.cell? ⟨r, 1, none⟩ = some (.slice X.A n X.c) := (b28.cell (p := ⟨r, 1, none⟩) hrl).trans c12
  refine hK.out _ _ (trivial) (fun hHeld => ?_)
  clear hK K
  try simp only [Act.put, List.setIfInBounds_toArray, List.set_cons_zero, List.set_cons_succ]
  refine wpAnyH_ready (rs := [16]) (by kernel_rfl) (by simp) ?_
  refine AllReadyH.cons (o := { dst := some 29, op := Go.Op.call { callee := Go.Callee.builtin Go.Builtin.append, args := #[Go.Operand.tmp 21, Go.Operand.tmp 28], argTypes := #[74, 74] }, type := 74, pos := "disk.go:122", after := #[{ on := 8, ground := Go.Ground.data }, { on := 15, ground := Go.Ground.data }, { on := 8, ground := Go.Ground.chain }], guard := none }) rfl (fun K hK => ?_) AllReadyH.nil
  rw [if_pos (by rfl)]
  refine wpF_append (.tmp 21) (.tmp 28) rfl w2.heap.size _ i (X.L.take i) rfl o8 w2.heap.size (if X.c = i + 1 then X.A else X.A.map (·.add ((i + 1) * 3))) (n - (i + 1)) (X.c - (i + 1)) (X.L.drop (i + 1)) rfl (by have := (HD2.out.rd_cut (i := i + 1) hlt2.out); rw [← HN.out] at this; exact this.below b28) (i + (n - (i + 1))) (X.L.take i ++ X.L.drop (i + 1)) rfl rfl (by omega) b28.size ?_
  intro A9 c9 w9 o9 b9 hc9 hm9
  have b29 : Below w2.heap.size w2 w9 := b28.trans b9
  have c19 : w9.cell? ⟨r, 1, none⟩ = some (.slice X.A n X.c) := (b29.cell (p := ⟨r, 1, none⟩) hrl).trans c12
  have fz9 : w9.frozen? ⟨r, 1, none⟩ = false := (HD2.out.below b29).cell.free 1
  refine hK.out _ _ (trivial) (fun hHeld => ?_)
  clear hK K
  try simp only [Act.put, List.setIfInBounds_toArray, List.set_cons_zero, List.set_cons_succ]
  refine wpAnyH_take (i := 17) (oi := { dst := some 30, op := Go.Op.nilCheck (Go.Operand.tmp 13), type := 0, pos := "disk.go:122", after := #[{ on := 0, ground := Go.Ground.data }, { on := 0, ground := Go.Ground.phase }, { on := 1, ground := Go.Ground.phase }, { on := 2, ground := Go.Ground.phase }, { on := 3, ground := Go.Ground.phase }, { on := 4, ground := Go.Ground.phase }, { on := 5, ground := Go.Ground.phase }, { on := 6, ground := Go.Ground.phase }, { on := 7, ground := Go.Ground.phase }, { on := 8, ground := Go.Ground.phase }, { on := 9, ground := Go.Ground.phase }, { on := 10, ground := Go.Ground.phase }, { on := 11, ground := Go.Ground.phase }, { on := 12, ground := Go.Ground.phase }, { on := 13, ground := Go.Ground.phase }, { on := 14, ground := Go.Ground.phase }, { on := 15, ground := Go.Ground.phase }, { on := 16, ground := Go.Ground.phase }], guard := none }) (v := ?_) rfl (by kernel_rfl) (by kernel_rfl) (by kernel_rfl) (fun _ _ _ h => h) (Or.inl ⟨by rfl, ?_⟩) (by assumption) ?_
  rotate_left
  · (intro w hSw; (try dsimp only at hSw); go_simp; try with_reducible rfl)
  try simp only [Act.put, List.setIfInBounds_toArray, List.set_cons_zero, List.set_cons_succ]
  refine wpAnyH_take (i := 18) (oi := { dst := some 31, op := Go.Op.fieldAddr 76 (Go.Operand.tmp 30) 1, type := 0, pos := "disk.go:122", after := #[{ on := 17, ground := Go.Ground.data }, { on := 0, ground := Go.Ground.phase }, { on := 1, ground := Go.Ground.phase }, { on := 2, ground := Go.Ground.phase }, { on := 3, ground := Go.Ground.phase }, { on := 4, ground := Go.Ground.phase }, { on := 5, ground := Go.Ground.phase }, { on := 6, ground := Go.Ground.phase }, { on := 7, ground := Go.Ground.phase }, { on := 8, ground := Go.Ground.phase }, { on := 9, ground := Go.Ground.phase }, { on := 10, ground := Go.Ground.phase }, { on := 11, ground := Go.Ground.phase }, { on := 12, ground := Go.Ground.phase }, { on := 13, ground := Go.Ground.phase }, { on := 14, ground := Go.Ground.phase }, { on := 15, ground := Go.Ground.phase }, { on := 16, ground := Go.Ground.phase }], guard := none }) (v := ?_) rfl (by kernel_rfl) (by kernel_rfl) (by kernel_rfl) (fun _ _ _ h => h) (Or.inl ⟨by rfl, ?_⟩) (by assumption) ?_
  rotate_left
  · (intro w hSw; (try dsimp only at hSw); go_simp; try with_reducible rfl)
  try simp only [Act.put, List.setIfInBounds_toArray, List.set_cons_zero, List.set_cons_succ]
  refine wpAnyH_ready (rs := [19]) (by kernel_rfl) (by simp) ?_
  refine AllReadyH.cons (o := { dst := none, op := Go.Op.store 74 (Go.Operand.tmp 31) (Go.Operand.tmp 29), type := 0, pos := "disk.go:122", after := #[{ on := 18, ground := Go.Ground.data }, { on := 16, ground := Go.Ground.data }, { on := 16, ground := Go.Ground.chain }, { on := 0, ground := Go.Ground.phase }, { on := 1, ground := Go.Ground.phase }, { on := 2, ground := Go.Ground.phase }, { on := 3, ground := Go.Ground.phase }, { on := 4, ground := Go.Ground.phase }, { on := 5, ground := Go.Ground.phase }, { on := 6, ground := Go.Ground.phase }, { on := 7, ground := Go.Ground.phase }, { on := 8, ground := Go.Ground.phase }, { on := 9, ground := Go.Ground.phase }, { on := 10, ground := Go.Ground.phase }, { on := 11, ground := Go.Ground.phase }, { on := 12, ground := Go.Ground.phase }, { on := 13, ground := Go.Ground.phase }, { on := 14, ground := Go.Ground.phase }, { on := 15, ground := Go.Ground.phase }, { on := 16, ground := Go.Ground.phase }], guard := none }) rfl (fun K hK => ?_) AllReadyH.nil
  go_simp
  obtain ⟨wS, hwS⟩ : ∃ wS, w9.setCell ⟨r, 1, none⟩ (.slice A9 (i + (n - (i + 1))) c9) = wS := ⟨_, rfl⟩
  rw [hwS]
  refine hK.out _ _ (trivial) (fun hHeld => ?_)
  clear hK K
  try simp only [Act.put, List.setIfInBounds_toArray, List.set_cons_zero, List.set_cons_succ]
  refine wpAnyH_done (by kernel_rfl) ?_ _
  rotate_left 1
  refine AllReadyH.cons (o := { dst := some 18, op := Go.Op.load 74 (Go.Operand.tmp 17), type := 74, pos := "disk.go:122", after := #[{ on := 4, ground := Go.Ground.data }], guard := none }) rfl (fun K hK => ?_) ?_
  go_simp
  refine hK.out _ _ (trivial) (fun hHeld => ?_)
  clear hK K
  try simp only [Act.put, List.setIfInBounds_toArray, List.set_cons_zero, List.set_cons_succ]
  refine wpAnyH_take (i := 7) (oi := { dst := some 20, op := Go.Op.slice 74 (Go.Operand.tmp 18) none (some (Go.Operand.tmp 19)) none, type := 74, pos := "disk.go:122", after := #[{ on := 5, ground := Go.Ground.data }, { on := 6, ground := Go.Ground.data }], guard := none }) (v := ?_) rfl (by kernel_rfl) (by kernel_rfl) (by kernel_rfl) (fun _ _ _ h => h) (Or.inl ⟨by rfl, ?_⟩) (by assumption) ?_
  rotate_left
  · (intro w hSw; (try dsimp only at hSw); go_simp; try with_reducible rfl)
  try simp only [Act.put, List.setIfInBounds_toArray, List.set_cons_zero, List.set_cons_succ]
  refine wpAnyH_ready (rs := [1, 12]) (by kernel_rfl) (by simp) ?_
  refine AllReadyH.cons (o := { dst := some 14, op := Go.Op.buildSlice 74 0 #[], type := 74, pos := "disk.go:122", after := #[], guard := none }) rfl (fun K hK => ?_) ?_
  go_simp
  obtain ⟨wA, hwA⟩ : ∃ wA, w2.alloc (.cells #[] 78) = wA := ⟨_, rfl⟩
  rw [hwA]
  have bA : Below w2.heap.size w2 wA := by rw [← hwA]; exact below_refl_alloc _ _
  have c1A : wA.cell? ⟨r, 1, none⟩ = some (.slice X.A n X.c) := (bA.cell (p := ⟨r, 1, none⟩) hrl).trans c12
  refine hK.out _ _ (trivial) (fun hHeld => ?_)
  clear hK K
  try simp only [Act.put, List.setIfInBounds_toArray, List.set_cons_zero, List.set_cons_succ]
  refine wpAnyH_ready (rs := [8, 12]) (by kernel_rfl) (by simp) ?_
  refine AllReadyH.cons (o := { dst := some 21, op := Go.Op.call { callee := Go.Callee.builtin Go.Builtin.append, args := #[Go.Operand.tmp 14, Go.Operand.tmp 20], argTypes := #[74, 74] }, type := 74, pos := "disk.go:122", after := #[{ on := 1, ground := Go.Ground.data }, { on := 7, ground := Go.Ground.data }], guard := none }) rfl (fun K hK => ?_) ?_
  rw [if_pos (by rfl)]
  refine wpF_append (.tmp 14) (.tmp 20) rfl w2.heap.size _ 0 [] rfl (by rw [← hwA]; exact own_empty w2 _ _) w2.heap.size X.A i X.c (X.L.take i) rfl ((HD2.out.rd_take hile2.out).below bA) i (X.L.take i) (by omega) rfl (by omega) bA.size ?_
  intro A8 c8 w8 o8 b8 hc8 hm8
  have b28 : Below w2.heap.size w2 w8 := bA.trans b8
  have c18 : w8.cell? ⟨r, 1, none⟩ = some (.slice X.A n X.c) := (b28.cell (p := ⟨r, 1, none⟩) hrl).trans c12
  refine hK.out _ _ (trivial) (fun hHeld => ?_)
  clear hK K
  try simp only [Act.put, List.setIfInBounds_toArray, List.set_cons_zero, List.set_cons_succ]
  refine wpAnyH_ready (rs := [12]) (by kernel_rfl) (by simp) ?_
  refine AllReadyH.cons (o := { dst := some 25, op := Go.Op.load 74 (Go.Operand.tmp 24), type := 74, pos := "disk.go:122", after := #[{ on := 11, ground := Go.Ground.data }], guard := none }) rfl (fun K hK => ?_) AllReadyH.nil
  go_simp
  refine hK.out _ _ (trivial) (fun hHeld => ?_)
  clear hK K
  try simp only [Act.put, List.setIfInBounds_toArray, List.set_cons_zero, List.set_cons_succ]
  refine wpAnyH_take (i := 15) (oi := { dst := some 28, op := Go.Op.slice 74 (Go.Operand.tmp 25) (some (Go.Operand.tmp 27)) none none, type := 74, pos := "disk.go:122", after := #[{ on := 12, ground := Go.Ground.data }, { on := 14, ground := Go.Ground.data }], guard := none }) (v := ?_) rfl (by kernel_rfl) (by kernel_rfl) (by kernel_rfl) (fun _ _ _ h => h) (Or.inl ⟨by rfl, ?_⟩) (by assumption) ?_
  rotate_left
  · (intro w hSw; (try dsimp only at hSw); go_simp; try with_reducible rfl)
  try simp only [Act.put, List.setIfInBounds_toArray, List.set_cons_zero, List.set_cons_succ]
  refine wpAnyH_ready (rs := [16]) (by kernel_rfl) (by simp) ?_
  refine AllReadyH.cons (o := { dst := some 29, op := Go.Op.call { callee := Go.Callee.builtin Go.Builtin.append, args := #[Go.Operand.tmp 21, Go.Operand.tmp 28], argTypes := #[74, 74] }, type := 74, pos := "disk.go:122", after := #[{ on := 8, ground := Go.Ground.data }, { on := 15, ground := Go.Ground.data }, { on := 8, ground := Go.Ground.chain }], guard := none }) rfl (fun K hK => ?_) AllReadyH.nil
  rw [if_pos (by rfl)]
  refine wpF_append (.tmp 21) (.tmp 28) rfl w2.heap.size _ i (X.L.take i) rfl o8 w2.heap.size (if X.c = i + 1 then X.A else X.A.map (·.add ((i + 1) * 3))) (n - (i + 1)) (X.c - (i + 1)) (X.L.drop (i + 1)) rfl (by have := (HD2.out.rd_cut (i := i + 1) hlt2.out); rw [← HN.out] at this; exact this.below b28) (i + (n - (i + 1))) (X.L.take i ++ X.L.drop (i + 1)) rfl rfl (by omega) b28.size ?_
  intro A9 c9 w9 o9 b9 hc9 hm9
  have b29 : Below w2.heap.size w2 w9 := b28.trans b9
  have c19 : w9.cell? ⟨r, 1, none⟩ = some (.slice X.A n X.c) := (b29.cell (p := ⟨r, 1, none⟩) hrl).trans c12
  have fz9 : w9.frozen? ⟨r, 1, none⟩ = false := (HD2.out.below b29).cell.free 1
  refine hK.out _ _ (trivial) (fun hHeld => ?_)
  clear hK K
  try simp only [Act.put, List.setIfInBounds_toArray, List.set_cons_zero, List.set_cons_succ]
  refine wpAnyH_take (i := 17) (oi := { dst := some 30, op := Go.Op.nilCheck (Go.Operand.tmp 13), type := 0, pos := "disk.go:122", after := #[{ on := 0, ground := Go.Ground.data }, { on := 0, ground := Go.Ground.phase }, { on := 1, ground := Go.Ground.phase }, { on := 2, ground := Go.Ground.phase }, { on := 3, ground := Go.Ground.phase }, { on := 4, ground := Go.Ground.phase }, { on := 5, ground := Go.Ground.phase }, { on := 6, ground := Go.Ground.phase }, { on := 7, ground := Go.Ground.phase }, { on := 8, ground := Go.Ground.phase }, { on := 9, ground := Go.Ground.phase }, { on := 10, ground := Go.Ground.phase }, { on := 11, ground := Go.Ground.phase }, { on := 12, ground := Go.Ground.phase }, { on := 13, ground := Go.Ground.phase }, { on := 14, ground := Go.Ground.phase }, { on := 15, ground := Go.Ground.phase }, { on := 16, ground := Go.Ground.phase }], guard := none }) (v := ?_) rfl (by kernel_rfl) (by kernel_rfl) (by kernel_rfl) (fun _ _ _ h => h) (Or.inl ⟨by rfl, ?_⟩) (by assumption) ?_
  rotate_left
  · (intro w hSw; (try dsimp only at hSw); go_simp; try with_reducible rfl)
  try simp only [Act.put, List.setIfInBounds_toArray, List.set_cons_zero, List.set_cons_succ]
  refine wpAnyH_take (i := 18) (oi := { dst := some 31, op := Go.Op.fieldAddr 76 (Go.Operand.tmp 30) 1, type := 0, pos := "disk.go:122", after := #[{ on := 17, ground := Go.Ground.data }, { on := 0, ground := Go.Ground.phase }, { on := 1, ground := Go.Ground.phase }, { on := 2, ground := Go.Ground.phase }, { on := 3, ground := Go.Ground.phase }, { on := 4, ground := Go.Ground.phase }, { on := 5, ground := Go.Ground.phase }, { on := 6, ground := Go.Ground.phase }, { on := 7, ground := Go.Ground.phase }, { on := 8, ground := Go.Ground.phase }, { on := 9, ground := Go.Ground.phase }, { on := 10, ground := Go.Ground.phase }, { on := 11, ground := Go.Ground.phase }, { on := 12, ground := Go.Ground.phase }, { on := 13, ground := Go.Ground.phase }, { on := 14, ground := Go.Ground.phase }, { on := 15, ground := Go.Ground.phase }, { on := 16, ground := Go.Ground.phase }], guard := none }) (v := ?_) rfl (by kernel_rfl) (by kernel_rfl) (by kernel_rfl) (fun _ _ _ h => h) (Or.inl ⟨by rfl, ?_⟩) (by assumption) ?_
  rotate_left
  · (intro w hSw; (try dsimp only at hSw); go_simp; try with_reducible rfl)
  try simp only [Act.put, List.setIfInBounds_toArray, List.set_cons_zero, List.set_cons_succ]
  refine wpAnyH_ready (rs := [19]) (by kernel_rfl) (by simp) ?_
  refine AllReadyH.cons (o := { dst := none, op := Go.Op.store 74 (Go.Operand.tmp 31) (Go.Operand.tmp 29), type := 0, pos := "disk.go:122", after := #[{ on := 18, ground := Go.Ground.data }, { on := 16, ground := Go.Ground.data }, { on := 16, ground := Go.Ground.chain }, { on := 0, ground := Go.Ground.phase }, { on := 1, ground := Go.Ground.phase }, { on := 2, ground := Go.Ground.phase }, { on := 3, ground := Go.Ground.phase }, { on := 4, ground := Go.Ground.phase }, { on := 5, ground := Go.Ground.phase }, { on := 6, ground := Go.Ground.phase }, { on := 7, ground := Go.Ground.phase }, { on := 8, ground := Go.Ground.phase }, { on := 9, ground := Go.Ground.phase }, { on := 10, ground := Go.Ground.phase }, { on := 11, ground := Go.Ground.phase }, { on := 12, ground := Go.Ground.phase }, { on := 13, ground := Go.Ground.phase }, { on := 14, ground := Go.Ground.phase }, { on := 15, ground := Go.Ground.phase }, { on := 16, ground := Go.Ground.phase }], guard := none }) rfl (fun K hK => ?_) AllReadyH.nil
  go_simp
  obtain ⟨wS, hwS⟩ : ∃ wS, w9.setCell ⟨r, 1, none⟩ (.slice A9 (i + (n - (i + 1))) c9) = wS := ⟨_, rfl⟩
  rw [hwS]
  refine hK.out _ _ (trivial) (fun hHeld => ?_)
  clear hK K
  try simp only [Act.put, List.setIfInBounds_toArray, List.set_cons_zero, List.set_cons_succ]
  refine wpAnyH_done (by kernel_rfl) ?_ _
  rotate_left 1
  refine AllReadyH.cons (o := { dst := some 25, op := Go.Op.load 74 (Go.Operand.tmp 24), type := 74, pos := "disk.go:122", after := #[{ on := 11, ground := Go.Ground.data }], guard := none }) rfl (fun K hK => ?_) AllReadyH.nil
  go_simp
  refine hK.out _ _ (trivial) (fun hHeld => ?_)
  clear hK K
  try simp only [Act.put, List.setIfInBounds_toArray, List.set_cons_zero, List.set_cons_succ]
  refine wpAnyH_take (i := 15) (oi := { dst := some 28, op := Go.Op.slice 74 (Go.Operand.tmp 25) (some (Go.Operand.tmp 27)) none none, type := 74, pos := "disk.go:122", after := #[{ on := 12, ground := Go.Ground.data }, { on := 14, ground := Go.Ground.data }], guard := none }) (v := ?_) rfl (by kernel_rfl) (by kernel_rfl) (by kernel_rfl) (fun _ _ _ h => h) (Or.inl ⟨by rfl, ?_⟩) (by assumption) ?_
  rotate_left
  · (intro w hSw; (try dsimp only at hSw); go_simp; try with_reducible rfl)
  try simp only [Act.put, List.setIfInBounds_toArray, List.set_cons_zero, List.set_cons_succ]
  refine wpAnyH_ready (rs := [8]) (by kernel_rfl) (by simp) ?_
  refine AllReadyH.cons (o := { dst := some 21, op := Go.Op.call { callee := Go.Callee.builtin Go.Builtin.append, args := #[Go.Operand.tmp 14, Go.Operand.tmp 20], argTypes := #[74, 74] }, type := 74, pos := "disk.go:122", after := #[{ on := 1, ground := Go.Ground.data }, { on := 7, ground := Go.Ground.data }], guard := none }) rfl (fun K hK => ?_) AllReadyH.nil
  rw [if_pos (by rfl)]
  refine wpF_append (.tmp 14) (.tmp 20) rfl w2.heap.size _ 0 [] rfl (by rw [← hwA]; exact own_empty w2 _ _) w2.heap.size X.A i X.c (X.L.take i) rfl ((HD2.out.rd_take hile2.out).below bA) i (X.L.take i) (by omega) rfl (by omega) bA.size ?_
  intro A8 c8 w8 o8 b8 hc8 hm8
  have b28 : Below w2.heap.size w2 w8 := bA.trans b8
  have c18 : w8.cell? ⟨r, 1, none⟩ = some (.slice X.A n X.c) := (b28.cell (p := ⟨r, 1, none⟩) hrl).trans c12
  refine hK.out _ _ (trivial) (fun hHeld => ?_)
  clear hK K
  try simp only [Act.put, List.setIfInBounds_toArray, List.set_cons_zero, List.set_cons_succ]
  refine wpAnyH_ready (rs := [16]) (by kernel_rfl) (by simp) ?_
  refine AllReadyH.cons (o := { dst := some 29, op := Go.Op.call { callee := Go.Callee.builtin Go.Builtin.append, args := #[Go.Operand.tmp 21, Go.Operand.tmp 28], argTypes := #[74, 74] }, type := 74, pos := "disk.go:122", after := #[{ on := 8, ground := Go.Ground.data }, { on := 15, ground := Go.Ground.data }, { on := 8, ground := Go.Ground.chain }], guard := none }) rfl (fun K hK => ?_) AllReadyH.nil
  rw [if_pos (by rfl)]
  refine wpF_append (.tmp 21) (.tmp 28) rfl w2.heap.size _ i (X.L.take i) rfl o8 w2.heap.size (if X.c = i + 1 then X.A else X.A.map (·.add ((i + 1) * 3))) (n - (i + 1)) (X.c - (i + 1)) (X.L.drop (i + 1)) rfl (by have := (HD2.out.rd_cut (i := i + 1) hlt2.out); rw [← HN.out] at this; exact this.below b28) (i + (n - (i + 1))) (X.L.take i ++ X.L.drop (i + 1)) rfl rfl (by omega) b28.size ?_
  intro A9 c9 w9 o9 b9 hc9 hm9
  have b29 : Below w2.heap.size w2 w9 := b28.trans b9
  have c19 : w9.cell? ⟨r, 1, none⟩ = some (.slice X.A n X.c) := (b29.cell (p := ⟨r, 1, none⟩) hrl).trans c12
  have fz9 : w9.frozen? ⟨r, 1, none⟩ = false := (HD2.out.below b29).cell.free 1
  refine hK.out _ _ (trivial) (fun hHeld => ?_)
  clear hK K
  try simp only [Act.put, List.setIfInBounds_toArray, List.set_cons_zero, List.set_cons_succ]
  refine wpAnyH_take (i := 17) (oi := { dst := some 30, op := Go.Op.nilCheck (Go.Operand.tmp 13), type := 0, pos := "disk.go:122", after := #[{ on := 0, ground := Go.Ground.data }, { on := 0, ground := Go.Ground.phase }, { on := 1, ground := Go.Ground.phase }, { on := 2, ground := Go.Ground.phase }, { on := 3, ground := Go.Ground.phase }, { on := 4, ground := Go.Ground.phase }, { on := 5, ground := Go.Ground.phase }, { on := 6, ground := Go.Ground.phase }, { on := 7, ground := Go.Ground.phase }, { on := 8, ground := Go.Ground.phase }, { on := 9, ground := Go.Ground.phase }, { on := 10, ground := Go.Ground.phase }, { on := 11, ground := Go.Ground.phase }, { on := 12, ground := Go.Ground.phase }, { on := 13, ground := Go.Ground.phase }, { on := 14, ground := Go.Ground.phase }, { on := 15, ground := Go.Ground.phase }, { on := 16, ground := Go.Ground.phase }], guard := none }) (v := ?_) rfl (by kernel_rfl) (by kernel_rfl) (by kernel_rfl) (fun _ _ _ h => h) (Or.inl ⟨by rfl, ?_⟩) (by assumption) ?_
  rotate_left
  · (intro w hSw; (try dsimp only at hSw); go_simp; try with_reducible rfl)
  try simp only [Act.put, List.setIfInBounds_toArray, List.set_cons_zero, List.set_cons_succ]
  refine wpAnyH_take (i := 18) (oi := { dst := some 31, op := Go.Op.fieldAddr 76 (Go.Operand.tmp 30) 1, type := 0, pos := "disk.go:122", after := #[{ on := 17, ground := Go.Ground.data }, { on := 0, ground := Go.Ground.phase }, { on := 1, ground := Go.Ground.phase }, { on := 2, ground := Go.Ground.phase }, { on := 3, ground := Go.Ground.phase }, { on := 4, ground := Go.Ground.phase }, { on := 5, ground := Go.Ground.phase }, { on := 6, ground := Go.Ground.phase }, { on := 7, ground := Go.Ground.phase }, { on := 8, ground := Go.Ground.phase }, { on := 9, ground := Go.Ground.phase }, { on := 10, ground := Go.Ground.phase }, { on := 11, ground := Go.Ground.phase }, { on := 12, ground := Go.Ground.phase }, { on := 13, ground := Go.Ground.phase }, { on := 14, ground := Go.Ground.phase }, { on := 15, ground := Go.Ground.phase }, { on := 16, ground := Go.Ground.phase }], guard := none }) (v := ?_) rfl (by kernel_rfl) (by kernel_rfl) (by kernel_rfl) (fun _ _ _ h => h) (Or.inl ⟨by rfl, ?_⟩) (by assumption) ?_
  rotate_left
  · (intro w hSw; (try dsimp only at hSw); go_simp; try with_reducible rfl)
  try simp only [Act.put, List.setIfInBounds_toArray, List.set_cons_zero, List.set_cons_succ]
  refine wpAnyH_ready (rs := [19]) (by kernel_rfl) (by simp) ?_
  refine AllReadyH.cons (o := { dst := none, op := Go.Op.store 74 (Go.Operand.tmp 31) (Go.Operand.tmp 29), type := 0, pos := "disk.go:122", after := #[{ on := 18, ground := Go.Ground.data }, { on := 16, ground := Go.Ground.data }, { on := 16, ground := Go.Ground.chain }, { on := 0, ground := Go.Ground.phase }, { on := 1, ground := Go.Ground.phase }, { on := 2, ground := Go.Ground.phase }, { on := 3, ground := Go.Ground.phase }, { on := 4, ground := Go.Ground.phase }, { on := 5, ground := Go.Ground.phase }, { on := 6, ground := Go.Ground.phase }, { on := 7, ground := Go.Ground.phase }, { on := 8, ground := Go.Ground.phase }, { on := 9, ground := Go.Ground.phase }, { on := 10, ground := Go.Ground.phase }, { on := 11, ground := Go.Ground.phase }, { on := 12, ground := Go.Ground.phase }, { on := 13, ground := Go.Ground.phase }, { on := 14, ground := Go.Ground.phase }, { on := 15, ground := Go.Ground.phase }, { on := 16, ground := Go.Ground.phase }], guard := none }) rfl (fun K hK => ?_) AllReadyH.nil
  go_simp
  obtain ⟨wS, hwS⟩ : ∃ wS, w9.setCell ⟨r, 1, none⟩ (.slice A9 (i + (n - (i + 1))) c9) = wS := ⟨_, rfl⟩
  rw [hwS]
  refine hK.out _ _ (trivial) (fun hHeld => ?_)
  clear hK K
  try simp only [Act.put, List.setIfInBounds_toArray, List.set_cons_zero, List.set_cons_succ]
  refine wpAnyH_done (by kernel_rfl) ?_ _
  rotate_left 1
  refine AllReadyH.cons (o := { dst := some 25, op := Go.Op.load 74 (Go.Operand.tmp 24), type := 74, pos := "disk.go:122", after := #[{ on := 11, ground := Go.Ground.data }], guard := none }) rfl (fun K hK => ?_) AllReadyH.nil
  go_simp
  refine hK.out _ _ (trivial) (fun hHeld => ?_)
  clear hK K
  try simp only [Act.put, List.setIfInBounds_toArray, List.set_cons_zero, List.set_cons_succ]
  refine wpAnyH_take (i := 15) (oi := { dst := some 28, op := Go.Op.slice 74 (Go.Operand.tmp 25) (some (Go.Operand.tmp 27)) none none, type := 74, pos := "disk.go:122", after := #[{ on := 12, ground := Go.Ground.data }, { on := 14, ground := Go.Ground.data }], guard := none }) (v := ?_) rfl (by kernel_rfl) (by kernel_rfl) (by kernel_rfl) (fun _ _ _ h => h) (Or.inl ⟨by rfl, ?_⟩) (by assumption) ?_
  rotate_left
  · (intro w hSw; (try dsimp only at hSw); go_simp; try with_reducible rfl)
  try simp only [Act.put, List.setIfInBounds_toArray, List.set_cons_zero, List.set_cons_succ]
  refine wpAnyH_ready (rs := [1]) (by kernel_rfl) (by simp) ?_
  refine AllReadyH.cons (o := { dst := some 14, op := Go.Op.buildSlice 74 0 #[], type := 74, pos := "disk.go:122", after := #[], guard := none }) rfl (fun K hK => ?_) AllReadyH.nil
  go_simp
  obtain ⟨wA, hwA⟩ : ∃ wA, w2.alloc (.cells #[] 78) = wA := ⟨_, rfl⟩
  rw [hwA]
  have bA : Below w2.heap.size w2 wA := by rw [← hwA]; exact below_refl_alloc _ _
  have c1A : wA.cell? ⟨r, 1, none⟩ = some (.slice X.A n X.c) := (bA.cell (p := ⟨r, 1, none⟩) hrl).trans c12
  refine hK.out _ _ (trivial) (fun hHeld => ?_)
  clear hK K
  try simp only [Act.put, List.setIfInBounds_toArray, List.set_cons_zero, List.set_cons_succ]
  refine wpAnyH_ready (rs := [8]) (by kernel_rfl) (by simp) ?_
  refine AllReadyH.cons (o := { dst := some 21, op := Go.Op.call { callee := Go.Callee.builtin Go.Builtin.append, args := #[Go.Operand.tmp 14, Go.Operand.tmp 20], argTypes := #[74, 74] }, type := 74, pos := "disk.go:122", after := #[{ on := 1, ground := Go.Ground.data }, { on := 7, ground := Go.Ground.data }], guard := none }) rfl (fun K hK => ?_) AllReadyH.nil
  rw [if_pos (by rfl)]
  refine wpF_append (.tmp 14) (.tmp 20) rfl w2.heap.size _ 0 [] rfl (by rw [← hwA]; exact own_empty w2 _ _) w2.heap.size X.A i X.c (X.L.take i) rfl ((HD2.out.rd_take hile2.out).below bA) i (X.L.take i) (by omega) rfl (by omega) bA.size ?_
  intro A8 c8 w8 o8 b8 hc8 hm8
  have b28 : Below w2.heap.size w2 w8 := bA.trans b8
  have c18 : w8.cell? ⟨r, 1, none⟩ = some (.slice X.A n X.c) := (b28.cell (p := ⟨r, 1, none⟩) hrl).trans c12
  refine hK.out _ _ (trivial) (fun hHeld => ?_)
  clear hK K
  try simp only [Act.put, List.setIfInBounds_toArray, List.set_cons_zero, List.set_cons_succ]
  refine wpAnyH_ready (rs := [16]) (by kernel_rfl) (by simp) ?_
  refine AllReadyH.cons (o := { dst := some 29, op := Go.Op.call { callee := Go.Callee.builtin Go.Builtin.append, args := #[Go.Operand.tmp 21, Go.Operand.tmp 28], argTypes := #[74, 74] }, type := 74, pos := "disk.go:122", after := #[{ on := 8, ground := Go.Ground.data }, { on := 15, ground := Go.Ground.data }, { on := 8, ground := Go.Ground.chain }], guard := none }) rfl (fun K hK => ?_) AllReadyH.nil
  rw [if_pos (by rfl)]
  refine wpF_append (.tmp 21) (.tmp 28) rfl w2.heap.size _ i (X.L.take i) rfl o8 w2.heap.size (if X.c = i + 1 then X.A else X.A.map (·.add ((i + 1) * 3))) (n - (i + 1)) (X.c - (i + 1)) (X.L.drop (i + 1)) rfl (by have := (HD2.out.rd_cut (i := i + 1) hlt2.out); rw [← HN.out] at this; exact this.below b28) (i + (n - (i + 1))) (X.L.take i ++ X.L.drop (i + 1)) rfl rfl (by omega) b28.size ?_
  intro A9 c9 w9 o9 b9 hc9 hm9
  have b29 : Below w2.heap.size w2 w9 := b28.trans b9
  have c19 : w9.cell? ⟨r, 1, none⟩ = some (.slice X.A n X.c) := (b29.cell (p := ⟨r, 1, none⟩) hrl).trans c12
  have fz9 : w9.frozen? ⟨r, 1, none⟩ = false := (HD2.out.below b29).cell.free 1
  refine hK.out _ _ (trivial) (fun hHeld => ?_)
  clear hK K
  try simp only [Act.put, List.setIfInBounds_toArray, List.set_cons_zero, List.set_cons_succ]
  refine wpAnyH_take (i := 17) (oi := { dst := some 30, op := Go.Op.nilCheck (Go.Operand.tmp 13), type := 0, pos := "disk.go:122", after := #[{ on := 0, ground := Go.Ground.data }, { on := 0, ground := Go.Ground.phase }, { on := 1, ground := Go.Ground.phase }, { on := 2, ground := Go.Ground.phase }, { on := 3, ground := Go.Ground.phase }, { on := 4, ground := Go.Ground.phase }, { on := 5, ground := Go.Ground.phase }, { on := 6, ground := Go.Ground.phase }, { on := 7, ground := Go.Ground.phase }, { on := 8, ground := Go.Ground.phase }, { on := 9, ground := Go.Ground.phase }, { on := 10, ground := Go.Ground.phase }, { on := 11, ground := Go.Ground.phase }, { on := 12, ground := Go.Ground.phase }, { on := 13, ground := Go.Ground.phase }, { on := 14, ground := Go.Ground.phase }, { on := 15, ground := Go.Ground.phase }, { on := 16, ground := Go.Ground.phase }], guard := none }) (v := ?_) rfl (by kernel_rfl) (by kernel_rfl) (by kernel_rfl) (fun _ _ _ h => h) (Or.inl ⟨by rfl, ?_⟩) (by assumption) ?_
  rotate_left
  · (intro w hSw; (try dsimp only at hSw); go_simp; try with_reducible rfl)
  try simp only [Act.put, List.setIfInBounds_toArray, List.set_cons_zero, List.set_cons_succ]
  refine wpAnyH_take (i := 18) (oi := { dst := some 31, op := Go.Op.fieldAddr 76 (Go.Operand.tmp 30) 1, type := 0, pos := "disk.go:122", after := #[{ on := 17, ground := Go.Ground.data }, { on := 0, ground := Go.Ground.phase }, { on := 1, ground := Go.Ground.phase }, { on := 2, ground := Go.Ground.phase }, { on := 3, ground := Go.Ground.phase }, { on := 4, ground := Go.Ground.phase }, { on := 5, ground := Go.Ground.phase }, { on := 6, ground := Go.Ground.phase }, { on := 7, ground := Go.Ground.phase }, { on := 8, ground := Go.Ground.phase }, { on := 9, ground := Go.Ground.phase }, { on := 10, ground := Go.Ground.phase }, { on := 11, ground := Go.Ground.phase }, { on := 12, ground := Go.Ground.phase }, { on := 13, ground := Go.Ground.phase }, { on := 14, ground := Go.Ground.phase }, { on := 15, ground := Go.Ground.phase }, { on := 16, ground := Go.Ground.phase }], guard := none }) (v := ?_) rfl (by kernel_rfl) (by kernel_rfl) (by kernel_rfl) (fun _ _ _ h => h) (Or.inl ⟨by rfl, ?_⟩) (by assumption) ?_
  rotate_left
  · (intro w hSw; (try dsimp only at hSw); go_simp; try with_reducible rfl)
  try simp only [Act.put, List.setIfInBounds_toArray, List.set_cons_zero, List.set_cons_succ]
  refine wpAnyH_ready (rs := [19]) (by kernel_rfl) (by simp) ?_
  refine AllReadyH.cons (o := { dst := none, op := Go.Op.store 74 (Go.Operand.tmp 31) (Go.Operand.tmp 29), type := 0, pos := "disk.go:122", after := #[{ on := 18, ground := Go.Ground.data }, { on := 16, ground := Go.Ground.data }, { on := 16, ground := Go.Ground.chain }, { on := 0, ground := Go.Ground.phase }, { on := 1, ground := Go.Ground.phase }, { on := 2, ground := Go.Ground.phase }, { on := 3, ground := Go.Ground.phase }, { on := 4, ground := Go.Ground.phase }, { on := 5, ground := Go.Ground.phase }, { on := 6, ground := Go.Ground.phase }, { on := 7, ground := Go.Ground.phase }, { on := 8, ground := Go.Ground.phase }, { on := 9, ground := Go.Ground.phase }, { on := 10, ground := Go.Ground.phase }, { on := 11, ground := Go.Ground.phase }, { on := 12, ground := Go.Ground.phase }, { on := 13, ground := Go.Ground.phase }, { on := 14, ground := Go.Ground.phase }, { on := 15, ground := Go.Ground.phase }, { on := 16, ground := Go.Ground.phase }], guard := none }) rfl (fun K hK => ?_) AllReadyH.nil
  go_simp
  obtain ⟨wS, hwS⟩ : ∃ wS, w9.setCell ⟨r, 1, none⟩ (.slice A9 (i + (n - (i + 1))) c9) = wS := ⟨_, rfl⟩
  rw [hwS]
  refine hK.out _ _ (trivial) (fun hHeld => ?_)
  clear hK K
  try simp only [Act.put, List.setIfInBounds_toArray, List.set_cons_zero, List.set_cons_succ]
  refine wpAnyH_done (by kernel_rfl) ?_ _
  rotate_left 1
  refine AllReadyH.cons (o := { dst := some 25, op := Go.Op.load 74 (Go.Operand.tmp 24), type := 74, pos := "disk.go:122", after := #[{ on := 11, ground := Go.Ground.data }], guard := none }) rfl (fun K hK => ?_) AllReadyH.nil
  go_simp
  refine hK.out _ _ (trivial) (fun hHeld => ?_)
  clear hK K
  try simp only [Act.put, List.setIfInBounds_toArray, List.set_cons_zero, List.set_cons_succ]
  refine wpAnyH_take (i := 15) (oi := { dst := some 28, op := Go.Op.slice 74 (Go.Operand.tmp 25) (some (Go.Operand.tmp 27)) none none, type := 74, pos := "disk.go:122", after := #[{ on := 12, ground := Go.Ground.data }, { on := 14, ground := Go.Ground.data }], guard := none }) (v := ?_) rfl (by kernel_rfl) (by kernel_rfl) (by kernel_rfl) (fun _ _ _ h => h) (Or.inl ⟨by rfl, ?_⟩) (by assumption) ?_
  rotate_left
  · (intro w hSw; (try dsimp only at hSw); go_simp; try with_reducible rfl)
  try simp only [Act.put, List.setIfInBounds_toArray, List.set_cons_zero, List.set_cons_succ]
  refine wpAnyH_ready (rs := [1, 5]) (by kernel_rfl) (by simp) ?_
  refine AllReadyH.cons (o := { dst := some 14, op := Go.Op.buildSlice 74 0 #[], type := 74, pos := "disk.go:122", after := #[], guard := none }) rfl (fun K hK => ?_) ?_
  go_simp
  obtain ⟨wA, hwA⟩ : ∃ wA, w2.alloc (.cells #[] 78) = wA := ⟨_, rfl⟩
  rw [hwA]
  have bA : Below w2.heap.size w2 wA := by rw [← hwA]; exact below_refl_alloc _ _
  have c1A : wA.cell? ⟨r, 1, none⟩ = some (.slice X.A n X.c) := (bA.cell (p := ⟨r, 1, none⟩) hrl).trans c12
  refine hK.out _ _ (trivial) (fun hHeld => ?_)
  clear hK K
  try simp only [Act.put, List.setIfInBounds_toArray, List.set_cons_zero, List.set_cons_succ]
  refine wpAnyH_ready (rs := [5]) (by kernel_rfl) (by simp) ?_
  refine AllReadyH.cons (o := { dst := some 18, op := Go.Op.load 74 (Go.Operand.tmp 17), type := 74, pos := "disk.go:122", after := #[{ on := 4, ground := Go.Ground.data }], guard := none }) rfl (fun K hK => ?_) AllReadyH.nil
  go_simp
  refine hK.out _ _ (trivial) (fun hHeld => ?_)
  clear hK K
  try simp only [Act.put, List.setIfInBounds_toArray, List.set_cons_zero, List.set_cons_succ]
  refine wpAnyH_take (i := 7) (oi := { dst := some 20, op := Go.Op.slice 74 (Go.Operand.tmp 18) none (some (Go.Operand.tmp 19)) none, type := 74, pos := "disk.go:122", after := #[{ on := 5, ground := Go.Ground.data }, { on := 6, ground := Go.Ground.data }], guard := none }) (v := ?_) rfl (by kernel_rfl) (by kernel_rfl) (by kernel_rfl) (fun _ _ _ h => h) (Or.inl ⟨by rfl, ?_⟩) (by assumption) ?_
  rotate_left
  · (intro w hSw; (try dsimp only at hSw); go_simp; try with_reducible rfl)
  try simp only [Act.put, List.setIfInBounds_toArray, List.set_cons_zero, List.set_cons_succ]
  refine wpAnyH_ready (rs := [8]) (by kernel_rfl) (by simp) ?_
  refine AllReadyH.cons (o := { dst := some 21, op := Go.Op.call { callee := Go.Callee.builtin Go.Builtin.append, args := #[Go.Operand.tmp 14, Go.Operand.tmp 20], argTypes := #[74, 74] }, type := 74, pos := "disk.go:122", after := #[{ on := 1, ground := Go.Ground.data }, { on := 7, ground := Go.Ground.data }], guard := none }) rfl (fun K hK => ?_) AllReadyH.nil
  rw [if_pos (by rfl)]
  refine wpF_append (.tmp 14) (.tmp 20) rfl w2.heap.size _ 0 [] rfl (by rw [← hwA]; exact own_empty w2 _ _) w2.heap.size X.A i X.c (X.L.take i) rfl ((HD2.out.rd_take hile2.out).below bA) i (X.L.take i) (by omega) rfl (by omega) bA.size ?_
  intro A8 c8 w8 o8 b8 hc8 hm8
  have b28 : Below w2.heap.size w2 w8 := bA.trans b8
  have c18 : w8.cell? ⟨r, 1, none⟩ = some (.slice X.A n X.c) := (b28.cell (p := ⟨r, 1, none⟩) hrl).trans c12
  refine hK.out _ _ (trivial) (fun hHeld => ?_)
  clear hK K
  try simp only [Act.put, List.setIfInBounds_toArray, List.set_cons_zero, List.set_cons_succ]
  refine wpAnyH_ready (rs := [16]) (by kernel_rfl) (by simp) ?_
  refine AllReadyH.cons (o := { dst := some 29, op := Go.Op.call { callee := Go.Callee.builtin Go.Builtin.append, args := #[Go.Operand.tmp 21, Go.Operand.tmp 28], argTypes := #[74, 74] }, type := 74, pos := "disk.go:122", after := #[{ on := 8, ground := Go.Ground.data }, { on := 15, ground := Go.Ground.data }, { on := 8, ground := Go.Ground.chain }], guard := none }) rfl (fun K hK => ?_) AllReadyH.nil
  rw [if_pos (by rfl)]
  refine wpF_append (.tmp 21) (.tmp 28) rfl w2.heap.size _ i (X.L.take i) rfl o8 w2.heap.size (if X.c = i + 1 then X.A else X.A.map (·.add ((i + 1) * 3))) (n - (i + 1)) (X.c - (i + 1)) (X.L.drop (i + 1)) rfl (by have := (HD2.out.rd_cut (i := i + 1) hlt2.out); rw [← HN.out] at this; exact this.below b28) (i + (n - (i + 1))) (X.L.take i ++ X.L.drop (i + 1)) rfl rfl (by omega) b28.size ?_
  intro A9 c9 w9 o9 b9 hc9 hm9
  have b29 : Below w2.heap.size w2 w9 := b28.trans b9
  have c19 : w9.cell? ⟨r, 1, none⟩ = some (.slice X.A n X.c) := (b29.cell (p := ⟨r, 1, none⟩) hrl).trans c12
  have fz9 : w9.frozen? ⟨r, 1, none⟩ = false := (HD2.out.below b29).cell.free 1
  refine hK.out _ _ (trivial) (fun hHeld => ?_)
  clear hK K
  try simp only [Act.put, List.setIfInBounds_toArray, List.set_cons_zero, List.set_cons_succ]
  refine wpAnyH_take (i := 17) (oi := { dst := some 30, op := Go.Op.nilCheck (Go.Operand.tmp 13), type := 0, pos := "disk.go:122", after := #[{ on := 0, ground := Go.Ground.data }, { on := 0, ground := Go.Ground.phase }, { on := 1, ground := Go.Ground.phase }, { on := 2, ground := Go.Ground.phase }, { on := 3, ground := Go.Ground.phase }, { on := 4, ground := Go.Ground.phase }, { on := 5, ground := Go.Ground.phase }, { on := 6, ground := Go.Ground.phase }, { on := 7, ground := Go.Ground.phase }, { on := 8, ground := Go.Ground.phase }, { on := 9, ground := Go.Ground.phase }, { on := 10, ground := Go.Ground.phase }, { on := 11, ground := Go.Ground.phase }, { on := 12, ground := Go.Ground.phase }, { on := 13, ground := Go.Ground.phase }, { on := 14, ground := Go.Ground.phase }, { on := 15, ground := Go.Ground.phase }, { on := 16, ground := Go.Ground.phase }], guard := none }) (v := ?_) rfl (by kernel_rfl) (by kernel_rfl) (by kernel_rfl) (fun _ _ _ h => h) (Or.inl ⟨by rfl, ?_⟩) (by assumption) ?_
  rotate_left
  · (intro w hSw; (try dsimp only at hSw); go_simp; try with_reducible rfl)
  try simp only [Act.put, List.setIfInBounds_toArray, List.set_cons_zero, List.set_cons_succ]
  refine wpAnyH_take (i := 18) (oi := { dst := some 31, op := Go.Op.fieldAddr 76 (Go.Operand.tmp 30) 1, type := 0, pos := "disk.go:122", after := #[{ on := 17, ground := Go.Ground.data }, { on := 0, ground := Go.Ground.phase }, { on := 1, ground := Go.Ground.phase }, { on := 2, ground := Go.Ground.phase }, { on := 3, ground := Go.Ground.phase }, { on := 4, ground := Go.Ground.phase }, { on := 5, ground := Go.Ground.phase }, { on := 6, ground := Go.Ground.phase }, { on := 7, ground := Go.Ground.phase }, { on := 8, ground := Go.Ground.phase }, { on := 9, ground := Go.Ground.phase }, { on := 10, ground := Go.Ground.phase }, { on := 11, ground := Go.Ground.phase }, { on := 12, ground := Go.Ground.phase }, { on := 13, ground := Go.Ground.phase }, { on := 14, ground := Go.Ground.phase }, { on := 15, ground := Go.Ground.phase }, { on := 16, ground := Go.Ground.phase }], guard := none }) (v := ?_) rfl (by kernel_rfl) (by kernel_rfl) (by kernel_rfl) (fun _ _ _ h => h) (Or.inl ⟨by rfl, ?_⟩) (by assumption) ?_
  rotate_left
  · (intro w hSw; (try dsimp only at hSw); go_simp; try with_reducible rfl)
  try simp only [Act.put, List.setIfInBounds_toArray, List.set_cons_zero, List.set_cons_succ]
  refine wpAnyH_ready (rs := [19]) (by kernel_rfl) (by simp) ?_
  refine AllReadyH.cons (o := { dst := none, op := Go.Op.store 74 (Go.Operand.tmp 31) (Go.Operand.tmp 29), type := 0, pos := "disk.go:122", after := #[{ on := 18, ground := Go.Ground.data }, { on := 16, ground := Go.Ground.data }, { on := 16, ground := Go.Ground.chain }, { on := 0, ground := Go.Ground.phase }, { on := 1, ground := Go.Ground.phase }, { on := 2, ground := Go.Ground.phase }, { on := 3, ground := Go.Ground.phase }, { on := 4, ground := Go.Ground.phase }, { on := 5, ground := Go.Ground.phase }, { on := 6, ground := Go.Ground.phase }, { on := 7, ground := Go.Ground.phase }, { on := 8, ground := Go.Ground.phase }, { on := 9, ground := Go.Ground.phase }, { on := 10, ground := Go.Ground.phase }, { on := 11, ground := Go.Ground.phase }, { on := 12, ground := Go.Ground.phase }, { on := 13, ground := Go.Ground.phase }, { on := 14, ground := Go.Ground.phase }, { on := 15, ground := Go.Ground.phase }, { on := 16, ground := Go.Ground.phase }], guard := none }) rfl (fun K hK => ?_) AllReadyH.nil
  go_simp
  obtain ⟨wS, hwS⟩ : ∃ wS, w9.setCell ⟨r, 1, none⟩ (.slice A9 (i + (n - (i + 1))) c9) = wS := ⟨_, rfl⟩
  rw [hwS]
  refine hK.out _ _ (trivial) (fun hHeld => ?_)
  clear hK K
  try simp only [Act.put, List.setIfInBounds_toArray, List.set_cons_zero, List.set_cons_succ]
  refine wpAnyH_done (by kernel_rfl) ?_ _
  rotate_left 1
  refine AllReadyH.cons (o := { dst := some 18, op := Go.Op.load 74 (Go.Operand.tmp 17), type := 74, pos := "disk.go:122", after := #[{ on := 4, ground := Go.Ground.data }], guard := none }) rfl (fun K hK => ?_) AllReadyH.nil
  go_simp
  refine hK.out _ _ (trivial) (fun hHeld => ?_)
  clear hK K
  try simp only [Act.put, List.setIfInBounds_toArray, List.set_cons_zero, List.set_cons_succ]
  refine wpAnyH_take (i := 7) (oi := { dst := some 20, op := Go.Op.slice 74 (Go.Operand.tmp 18) none (some (Go.Operand.tmp 19)) none, type := 74, pos := "disk.go:122", after := #[{ on := 5, ground := Go.Ground.data }, { on := 6, ground := Go.Ground.data }], guard := none }) (v := ?_) rfl (by kernel_rfl) (by kernel_rfl) (by kernel_rfl) (fun _ _ _ h => h) (Or.inl ⟨by rfl, ?_⟩) (by assumption) ?_
  rotate_left
  · (intro w hSw; (try dsimp only at hSw); go_simp; try with_reducible rfl)
  try simp only [Act.put, List.setIfInBounds_toArray, List.set_cons_zero, List.set_cons_succ]
  refine wpAnyH_ready (rs := [1]) (by kernel_rfl) (by simp) ?_
  refine AllReadyH.cons (o := { dst := some 14, op := Go.Op.buildSlice 74 0 #[], type := 74, pos := "disk.go:122", after := #[], guard := none }) rfl (fun K hK => ?_) AllReadyH.nil
  go_simp
  obtain ⟨wA, hwA⟩ : ∃ wA, w2.alloc (.cells #[] 78) = wA := ⟨_, rfl⟩
  rw [hwA]
  have bA : Below w2.heap.size w2 wA := by rw [← hwA]; exact below_refl_alloc _ _
  have c1A : wA.cell? ⟨r, 1, none⟩ = some (.slice X.A n X.c) := (bA.cell (p := ⟨r, 1, none⟩) hrl).trans c12
  refine hK.out _ _ (trivial) (fun hHeld => ?_)
  clear hK K
  try simp only [Act.put, List.setIfInBounds_toArray, List.set_cons_zero, List.set_cons_succ]
  refine wpAnyH_ready (rs := [8]) (by kernel_rfl) (by simp) ?_
  refine AllReadyH.cons (o := { dst := some 21, op := Go.Op.call { callee := Go.Callee.builtin Go.Builtin.append, args := #[Go.Operand.tmp 14, Go.Operand.tmp 20], argTypes := #[74, 74] }, type := 74, pos := "disk.go:122", after := #[{ on := 1, ground := Go.Ground.data }, { on := 7, ground := Go.Ground.data }], guard := none }) rfl (fun K hK => ?_) AllReadyH.nil
  rw [if_pos (by rfl)]
  refine wpF_append (.tmp 14) (.tmp 20) rfl w2.heap.size _ 0 [] rfl (by rw [← hwA]; exact own_empty w2 _ _) w2.heap.size X.A i X.c (X.L.take i) rfl ((HD2.out.rd_take hile2.out).below bA) i (X.L.take i) (by omega) rfl (by omega) bA.size ?_
  intro A8 c8 w8 o8 b8 hc8 hm8
  have b28 : Below w2.heap.size w2 w8 := bA.trans b8
  have c18 : w8.cell? ⟨r, 1, none⟩ = some (.slice X.A n X.c) := (b28.cell (p := ⟨r, 1, none⟩) hrl).trans c12
  refine hK.out _ _ (trivial) (fun hHeld => ?_)
  clear hK K
  try simp only [Act.put, List.setIfInBounds_toArray, List.set_cons_zero, List.set_cons_succ]
  refine wpAnyH_ready (rs := [16]) (by kernel_rfl) (by simp) ?_
  refine AllReadyH.cons (o := { dst := some 29, op := Go.Op.call { callee := Go.Callee.builtin Go.Builtin.append, args := #[Go.Operand.tmp 21, Go.Operand.tmp 28], argTypes := #[74, 74] }, type := 74, pos := "disk.go:122", after := #[{ on := 8, ground := Go.Ground.data }, { on := 15, ground := Go.Ground.data }, { on := 8, ground := Go.Ground.chain }], guard := none }) rfl (fun K hK => ?_) AllReadyH.nil
  rw [if_pos (by rfl)]
  refine wpF_append (.tmp 21) (.tmp 28) rfl w2.heap.size _ i (X.L.take i) rfl o8 w2.heap.size (if X.c = i + 1 then X.A else X.A.map (·.add ((i + 1) * 3))) (n - (i + 1)) (X.c - (i + 1)) (X.L.drop (i + 1)) rfl (by have := (HD2.out.rd_cut (i := i + 1) hlt2.out); rw [← HN.out] at this; exact this.below b28) (i + (n - (i + 1))) (X.L.take i ++ X.L.drop (i + 1)) rfl rfl (by omega) b28.size ?_
  intro A9 c9 w9 o9 b9 hc9 hm9
  have b29 : Below w2.heap.size w2 w9 := b28.trans b9
  have c19 : w9.cell? ⟨r, 1, none⟩ = some (.slice X.A n X.c) := (b29.cell (p := ⟨r, 1, none⟩) hrl).trans c12
  have fz9 : w9.frozen? ⟨r, 1, none⟩ = false := (HD2.out.below b29).cell.free 1
  refine hK.out _ _ (trivial) (fun hHeld => ?_)
  clear hK K
  try simp only [Act.put, List.setIfInBounds_toArray, List.set_cons_zero, List.set_cons_succ]
  refine wpAnyH_take (i := 17) (oi := { dst := some 30, op := Go.Op.nilCheck (Go.Operand.tmp 13), type := 0, pos := "disk.go:122", after := #[{ on := 0, ground := Go.Ground.data }, { on := 0, ground := Go.Ground.phase }, { on := 1, ground := Go.Ground.phase }, { on := 2, ground := Go.Ground.phase }, { on := 3, ground := Go.Ground.phase }, { on := 4, ground := Go.Ground.phase }, { on := 5, ground := Go.Ground.phase }, { on := 6, ground := Go.Ground.phase }, { on := 7, ground := Go.Ground.phase }, { on := 8, ground := Go.Ground.phase }, { on := 9, ground := Go.Ground.phase }, { on := 10, ground := Go.Ground.phase }, { on := 11, ground := Go.Ground.phase }, { on := 12, ground := Go.Ground.phase }, { on := 13, ground := Go.Ground.phase }, { on := 14, ground := Go.Ground.phase }, { on := 15, ground := Go.Ground.phase }, { on := 16, ground := Go.Ground.phase }], guard := none }) (v := ?_) rfl (by kernel_rfl) (by kernel_rfl) (by kernel_rfl) (fun _ _ _ h => h) (Or.inl ⟨by rfl, ?_⟩) (by assumption) ?_
  rotate_left
  · (intro w hSw; (try dsimp only at hSw); go_simp; try with_reducible rfl)
  try simp only [Act.put, List.setIfInBounds_toArray, List.set_cons_zero, List.set_cons_succ]
  refine wpAnyH_take (i := 18) (oi := { dst := some 31, op := Go.Op.fieldAddr 76 (Go.Operand.tmp 30) 1, type := 0, pos := "disk.go:122", after := #[{ on := 17, ground := Go.Ground.data }, { on := 0, ground := Go.Ground.phase }, { on := 1, ground := Go.Ground.phase }, { on := 2, ground := Go.Ground.phase }, { on := 3, ground := Go.Ground.phase }, { on := 4, ground := Go.Ground.phase }, { on := 5, ground := Go.Ground.phase }, { on := 6, ground := Go.Ground.phase }, { on := 7, ground := Go.Ground.phase }, { on := 8, ground := Go.Ground.phase }, { on := 9, ground := Go.Ground.phase }, { on := 10, ground := Go.Ground.phase }, { on := 11, ground := Go.Ground.phase }, { on := 12, ground := Go.Ground.phase }, { on := 13, ground := Go.Ground.phase }, { on := 14, ground := Go.Ground.phase }, { on := 15, ground := Go.Ground.phase }, { on := 16, ground := Go.Ground.phase }], guard := none }) (v := ?_) rfl (by kernel_rfl) (by kernel_rfl) (by kernel_rfl) (fun _ _ _ h => h) (Or.inl ⟨by rfl, ?_⟩) (by assumption) ?_
  rotate_left
  · (intro w hSw; (try dsimp only at hSw); go_simp; try with_reducible rfl)
  try simp only [Act.put, List.setIfInBounds_toArray, List.set_cons_zero, List.set_cons_succ]
  refine wpAnyH_ready (rs := [19]) (by kernel_rfl) (by simp) ?_
  refine AllReadyH.cons (o := { dst := none, op := Go.Op.store 74 (Go.Operand.tmp 31) (Go.Operand.tmp 29), type := 0, pos := "disk.go:122", after := #[{ on := 18, ground := Go.Ground.data }, { on := 16, ground := Go.Ground.data }, { on := 16, ground := Go.Ground.chain }, { on := 0, ground := Go.Ground.phase }, { on := 1, ground := Go.Ground.phase }, { on := 2, ground := Go.Ground.phase }, { on := 3, ground := Go.Ground.phase }, { on := 4, ground := Go.Ground.phase }, { on := 5, ground := Go.Ground.phase }, { on := 6, ground := Go.Ground.phase }, { on := 7, ground := Go.Ground.phase }, { on := 8, ground := Go.Ground.phase }, { on := 9, ground := Go.Ground.phase }, { on := 10, ground := Go.Ground.phase }, { on := 11, ground := Go.Ground.phase }, { on := 12, ground := Go.Ground.phase }, { on := 13, ground := Go.Ground.phase }, { on := 14, ground := Go.Ground.phase }, { on := 15, ground := Go.Ground.phase }, { on := 16, ground := Go.Ground.phase }], guard := none }) rfl (fun K hK => ?_) AllReadyH.nil
  go_simp
  obtain ⟨wS, hwS⟩ : ∃ wS, w9.setCell ⟨r, 1, none⟩ (.slice A9 (i + (n - (i + 1))) c9) = wS := ⟨_, rfl⟩
  rw [hwS]
  refine hK.out _ _ (trivial) (fun hHeld => ?_)
  clear hK K
  try simp only [Act.put, List.setIfInBounds_toArray, List.set_cons_zero, List.set_cons_succ]
  refine wpAnyH_done (by kernel_rfl) ?_ _
  all_goals (
    clear hHeld
    have hlenY : (X.L.take i ++ X.L.drop (i + 1)).length = i + (n - (i + 1)) := by rw [List.length_append, List.length_take, List.length_drop, ← HN.out]; have := hlt2.out; have := HN.out; omega
    have hts : Turn [r] w2 wS := by
      rw [← hwS]
      exact (Turn.of_below b29).trans (Turn.set (B := [r]) (.inl (by simp))) (fun q hq => .inl hq)
    have ho6 : ∀ q, (Value.slice A9 (i + (n - (i + 1))) c9).ownBlock = some q → w2.heap.size ≤ q := fun q hq => (o9.lt q hq).1
    have hrowS : wS.ownsRow base 78 3 (.slice A9 (X.L.take i ++ X.L.drop (i + 1)).length c9) (X.L.take i ++ X.L.drop (i + 1)).length ((X.L.take i ++ X.L.drop (i + 1)).flatMap rcells) := by
      rw [hlenY, ← hwS]
      exact own_block (own_more o9 HD2.out.base_le) fun q hq => Below.heap_setCell _ _ _ _ (fun e => by have := ho6 q hq; subst e; omega)
    have hcellS : Blk wS r (rdcells { X with A := A9, c := c9, L := X.L.take i ++ X.L.drop (i + 1) }) 76 := by
      have h1 := Blk.set (HD2.out.below b29).cell 1 (.slice A9 (i + (n - (i + 1))) c9)
      rw [hwS] at h1
      have h2 : rdcells { X with A := A9, c := c9, L := X.L.take i ++ X.L.drop (i + 1) } = (rdcells X).setIfInBounds 1 (.slice A9 (i + (n - (i + 1))) c9) := by
        unfold rdcells RDS.v; simp only [hlenY]; rfl
      rw [h2]; exact h1
    have hRY := HD2.out.relist hrowS (by rw [hlenY]; exact ho6) hcellS hts (fun f hf => by
      have h2 : f ∈ X.L := by
        rcases List.mem_append.1 hf with h1 | h1
        · exact List.mem_of_mem_take h1
        · exact List.mem_of_mem_drop h1
      exact .inl ⟨f, h2, rfl, rfl, rfl, rfl, (HD2.out.file f h2).2.2⟩) (delX_used X i) (by rw [hlenY]; omega)
    have HRY := Lib.hid (And.intro hRY hts)
    clear hRY hcellS hrowS ho6 hts hlenY hwS hwA o9 o8 b29 b28 b9 b8 bA c19 c18 c1A fz9 c12
    go_wp2_with fail
    all_goals (
      go_end0
      refine ⟨rfl, _, .inr ⟨HE.out, A9, c9, rfl⟩, ?_, ?_, ?_⟩
      · rw [HI.out]; exact HRY.out.1.1
      · exact HT2.out.trans HRY.out.2 (fun q hq => .inl hq)
      · rw [HI.out]; exact fun q hq => (HRY.out.1.2 q hq).imp id (fun h => Nat.le_trans HT2.out.size h)))
theorem rdel_any (base r : Nat) (X : RDS) (w : World) (h : RW w base r X) (s : List UInt8) :
    Calls Try.prog 54 #[.pointer (some ⟨r, 0, none⟩), .string (str s)] w (RetDel base r X s w) := by
  rcases he : spotB s X.L with _ | _
  · exact rdel_none base r X w h s he
  · exact rdel_some base r X w h s he
end Go.Proofs.Ytcoimlenejffpaa

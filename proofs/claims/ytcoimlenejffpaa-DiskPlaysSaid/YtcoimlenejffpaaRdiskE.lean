/- ref disk: Append. -/
import Derived.Test.YtcoimlenejffpaaRdiskM
import Derived.Test.YtcoimlenejffpaaRdiskC
namespace Go.Proofs.Ytcoimlenejffpaa
set_option linter.all false
open Go.RowKit
def appF (f : RFE) (A : Option Addr) (c : Nat) (nb : List UInt8) : RFE := ⟨f.s, A, c, f.b ++ nb, f.l⟩
def newF (s : List UInt8) : RFE := ⟨s, none, 0, [], 0⟩
def insX (X : RDS) (s : List UInt8) (i : Nat) (A : Option Addr) (c : Nat) : RDS := { X with A := A, c := c, L := X.L.take i ++ newF s :: X.L.drop i }
def RAppR (X : RDS) (s nb : List UInt8) (code : Nat) (X' : RDS) : Prop :=
  (rmayE X.left [s] ≠ 0 ∧ code = rmayE X.left [s] ∧ X' = X) ∨ (rmayE X.left [s] = 0 ∧ X.room < X.used + nb.length ∧ code = 6 ∧ X' = X) ∨
    (rmayE X.left [s] = 0 ∧ X.used + nb.length ≤ X.room ∧ code = 0 ∧
      ((spotB s X.L = true ∧ ∃ i f, spotI s X.L = i ∧ X.L[i]? = some f ∧ ∃ A c, X' = didX { X with L := X.L.set i (appF f A c nb) }) ∨
       (spotB s X.L = false ∧ ∃ A1 c1 A c, X' = didX { insX X s (spotI s X.L) A1 c1 with L := (insX X s (spotI s X.L) A1 c1).L.set (spotI s X.L) (appF (newF s) A c nb) })))
set_option maxRecDepth 100000 in
set_option maxHeartbeats 3200000 in
theorem rapp_bad (base r : Nat) (X : RDS) (w : World) (h : RW w base r X) (s : List UInt8) (hs : s.length ≤ 140737488351232) (A : Option Addr) (m c : Nat) (nb : List UInt8) (hr : Bs w base A m nb) (hm : m ≤ 1073741824) (e0 : Nat) (h0 : rmayE X.left [s] = e0) (he0 : ((e0 : Int) != 0) = true) :
    Calls Try.prog 36 #[.pointer (some ⟨r, 0, none⟩), .string (str s), .slice A m c] w (RetX base r X (RAppR X s nb) w) := by
  generalize hW : w.alloc (.cells #[.string (str s)] 9) = W
  have hb0 : Below w.heap.size w W := by rw [← hW]; exact (Below.refl _ _).alloc (Nat.le_refl _) _
  have hW1 : RW W base r X := h.below hb0
  have hrd : Rd W W.heap.size 1 (some ⟨w.heap.size, 0, none⟩) 1 ([s].map sv) := by rw [← hW]; simpa [sv] using Rd.lit_new w ([s].map sv) 9
  have hmay := rmay_any base r X W hW1 (some ⟨w.heap.size, 0, none⟩) 1 1 [s] hrd (by omega) (by intro x hx; simp at hx; subst hx; exact hs)
  rw [h0] at hmay
  have HMAY := Lib.hid hmay
  have H1 := Lib.hid hW1
  have HB0 := Lib.hid hb0
  have hz : e0 ≠ 0 := by intro e; subst e; simp at he0
  have H0 := Lib.hid h0
  have HZ := Lib.hid hz
  clear h hW1 hmay hb0 h0 hrd hz
  go_enter Try.func36, Try.ntmps36
  go_wp2_with fail
  refine (unhide3 HMAY).mono ?_
  rintro en w1 ⟨rfl, rfl⟩
  go_wp2_with fail
  go_ret
  refine ⟨e0, X, rfl, .inl ⟨by rw [H0.out]; exact HZ.out, H0.out.symm, rfl⟩, H1.out, Turn.of_below HB0.out, fun i hi => .inl hi⟩
set_option maxRecDepth 100000 in
set_option maxHeartbeats 3200000 in
theorem rapp_full (base r : Nat) (X : RDS) (w : World) (h : RW w base r X) (s : List UInt8) (hs : s.length ≤ 140737488351232) (A : Option Addr) (m c : Nat) (nb : List UInt8) (hr : Bs w base A m nb) (hm : m ≤ 1073741824) (h0 : rmayE X.left [s] = 0) (hfit : X.room < X.used + nb.length) :
    Calls Try.prog 36 #[.pointer (some ⟨r, 0, none⟩), .string (str s), .slice A m c] w (RetX base r X (RAppR X s nb) w) := by
  generalize hW : w.alloc (.cells #[.string (str s)] 9) = W
  have hb0 : Below w.heap.size w W := by rw [← hW]; exact (Below.refl _ _).alloc (Nat.le_refl _) _
  have hW1 : RW W base r X := h.below hb0
  have hrd : Rd W W.heap.size 1 (some ⟨w.heap.size, 0, none⟩) 1 ([s].map sv) := by rw [← hW]; simpa [sv] using Rd.lit_new w ([s].map sv) 9
  have hmay := rmay_any base r X W hW1 (some ⟨w.heap.size, 0, none⟩) 1 1 [s] hrd (by omega) (by intro x hx; simp at hx; subst hx; exact hs)
  rw [h0] at hmay
  have HMAY := Lib.hid hmay
  have H1 := Lib.hid hW1
  have HB0 := Lib.hid hb0
  have c0W : W.cell? ⟨r, 0, none⟩ = some (.int .i64 (X.room : Int)) := by have := hW1.cell; unfold rdcells at this; exact this.cell 0
  have c1W : W.cell? ⟨r, 1, none⟩ = some (.slice X.A X.L.length X.c) := by have := hW1.cell; unfold rdcells RDS.v at this; exact this.cell 1
  have hml : Hid (nb.length = m) := hr.len
  have hro := hW1.room
  have hfew := hW1.few
  have hcap := hW1.cap
  have HRB := Lib.hid (hr.below (hb0.mono h.base_le))
  obtain ⟨bb, he⟩ : ∃ bb, spotB s X.L = bb := ⟨_, rfl⟩
  have hsp := rspot_any base r X W hW1 s
  rw [he] at hsp
  obtain ⟨i, hi⟩ : ∃ i, spotI s X.L = i := ⟨_, rfl⟩
  have hile : i ≤ X.L.length := by rw [← hi]; exact spot_le _ _
  rw [hi] at hsp
  have HSP := Lib.hid hsp
  have HI := Lib.hid hi
  have H0 := Lib.hid h0
  have HE := Lib.hid he
  have HFT := Lib.hid hfit
  clear h hW1 hmay hb0 h0 hrd he hsp hi hr
  go_enter Try.func36, Try.ntmps36
  go_wp2_with fail
  refine (unhide3 HMAY).mono ?_
  rintro en w1 ⟨rfl, rfl⟩
  go_wp2_with fail
  refine (unhide3 HSP).mono ?_
  rintro en w1 ⟨rfl, nq, hw1⟩
  have hd1 : RW w1 base r X := by rw [hw1]; exact H1.out.keep (fun _ _ => rfl) (Nat.le_refl _)
  have ht1 : Turn (X.bl r) w w1 := by rw [hw1]; exact (Turn.of_below HB0.out).drewN nq
  have c01 : w1.cell? ⟨r, 0, none⟩ = some (.int .i64 (X.room : Int)) := by rw [hw1]; exact c0W
  have c11 : w1.cell? ⟨r, 1, none⟩ = some (.slice X.A X.L.length X.c) := by rw [hw1]; exact c1W
  have HRB1 : Hid (Bs w1 base A m nb) := by rw [hw1]; exact HRB.out
  have HT1 := Lib.hid ht1
  have HD1 := Lib.hid hd1
  obtain ⟨n, hn⟩ : ∃ n, n = X.L.length := ⟨_, rfl⟩
  rw [← hn] at c11 hile hfew hcap
  have HN := Lib.hid hn
  have hun : undef = Value.tuple #[] := rfl
  clear hw1 ht1 hd1 c0W c1W HMAY hn HRB
  go_wp2_with fail
  have hwrap : IntKind.i64.wrap ((X.used : Int) + (m : Int)) = (X.used : Int) + (m : Int) := IntWalk.i64_in _ ⟨by omega, by omega⟩
  have q5 : decide ((X.used : Int) + (m : Int) > (X.room : Int)) = true := decide_eq_true (by have := HFT.out; have := hml.out; omega)
  have q6 : decide ((X.room : Int) < (X.used : Int) + (m : Int)) = true := decide_eq_true (by have := HFT.out; have := hml.out; omega)
  have q7 : decide (X.room < X.used + m) = true := decide_eq_true (by have := HFT.out; have := hml.out; omega)
  refine wp_region_held_drew (S := fun w' => w'.cell? ⟨r, 0, none⟩ = some (.int .i64 (X.room : Int)) ∧ w'.cell? ⟨r, 1, none⟩ = some (.slice X.A n X.c)) (by kernel_rfl) (⟨c01, c11⟩) (fun hHeld => ?_)
  obtain ⟨w2, hw2⟩ : ∃ w2, w1.drew = w2 := ⟨_, rfl⟩
  rw [hw2] at hHeld ⊢
  have hd2 : RW w2 base r X := by rw [← hw2]; exact HD1.out.keep (fun _ _ => rfl) (Nat.le_refl _)
  refine wpAnyH_take (i := 0) (oi := { dst := some 24, op := Go.Op.move (Go.Operand.tmp 0), type := 45, pos := "disk.go:74", after := #[], guard := none }) (v := ?_) rfl (by kernel_rfl) (by kernel_rfl) (by kernel_rfl) (fun _ _ _ h => h) (Or.inl ⟨by rfl, ?_⟩) (by assumption) ?_
  rotate_left
  · (intro w hSw; (try dsimp only at hSw); go_simp; try with_reducible rfl)
  try simp only [Act.put, List.setIfInBounds_toArray, List.set_cons_zero, List.set_cons_succ]
  refine wpAnyH_take (i := 2) (oi := { dst := some 26, op := Go.Op.move (Go.Operand.tmp 2), type := 23, pos := "disk.go:74", after := #[], guard := none }) (v := ?_) rfl (by kernel_rfl) (by kernel_rfl) (by kernel_rfl) (fun _ _ _ h => h) (Or.inl ⟨by rfl, ?_⟩) (by assumption) ?_
  rotate_left
  · (intro w hSw; (try dsimp only at hSw); go_simp; try with_reducible rfl)
  try simp only [Act.put, List.setIfInBounds_toArray, List.set_cons_zero, List.set_cons_succ]
  refine wpAnyH_take (i := 3) (oi := { dst := some 27, op := Go.Op.call { callee := Go.Callee.builtin Go.Builtin.len, args := #[Go.Operand.tmp 26], argTypes := #[23] }, type := 3, pos := "disk.go:74", after := #[{ on := 2, ground := Go.Ground.data }], guard := none }) (v := ?_) rfl (by kernel_rfl) (by kernel_rfl) (by kernel_rfl) (fun _ _ _ h => h) (Or.inl ⟨by rfl, ?_⟩) (by assumption) ?_
  rotate_left
  · (intro w hSw; (try dsimp only at hSw); go_simp; try with_reducible rfl)
  try simp only [Act.put, List.setIfInBounds_toArray, List.set_cons_zero, List.set_cons_succ]
  refine wpAnyH_take (i := 5) (oi := { dst := some 29, op := Go.Op.move (Go.Operand.tmp 0), type := 45, pos := "disk.go:74", after := #[], guard := none }) (v := ?_) rfl (by kernel_rfl) (by kernel_rfl) (by kernel_rfl) (fun _ _ _ h => h) (Or.inl ⟨by rfl, ?_⟩) (by assumption) ?_
  rotate_left
  · (intro w hSw; (try dsimp only at hSw); go_simp; try with_reducible rfl)
  try simp only [Act.put, List.setIfInBounds_toArray, List.set_cons_zero, List.set_cons_succ]
  refine wpAnyH_take (i := 6) (oi := { dst := some 30, op := Go.Op.nilCheck (Go.Operand.tmp 29), type := 0, pos := "disk.go:74", after := #[{ on := 5, ground := Go.Ground.data }], guard := none }) (v := ?_) rfl (by kernel_rfl) (by kernel_rfl) (by kernel_rfl) (fun _ _ _ h => h) (Or.inl ⟨by rfl, ?_⟩) (by assumption) ?_
  rotate_left
  · (intro w hSw; (try dsimp only at hSw); go_simp; try with_reducible rfl)
  try simp only [Act.put, List.setIfInBounds_toArray, List.set_cons_zero, List.set_cons_succ]
  refine wpAnyH_take (i := 7) (oi := { dst := some 31, op := Go.Op.fieldAddr 76 (Go.Operand.tmp 30) 0, type := 0, pos := "disk.go:74", after := #[{ on := 6, ground := Go.Ground.data }], guard := none }) (v := ?_) rfl (by kernel_rfl) (by kernel_rfl) (by kernel_rfl) (fun _ _ _ h => h) (Or.inl ⟨by rfl, ?_⟩) (by assumption) ?_
  rotate_left
  · (intro w hSw; (try dsimp only at hSw); go_simp; try with_reducible rfl)
  try simp only [Act.put, List.setIfInBounds_toArray, List.set_cons_zero, List.set_cons_succ]
  refine wpAnyH_take (i := 8) (oi := { dst := some 32, op := Go.Op.load 3 (Go.Operand.tmp 31), type := 3, pos := "disk.go:74", after := #[{ on := 7, ground := Go.Ground.data }], guard := none }) (v := ?_) rfl (by kernel_rfl) (by kernel_rfl) (by kernel_rfl) (fun _ _ _ h => h) (Or.inl ⟨by rfl, ?_⟩) (by assumption) ?_
  rotate_left
  · (intro w hSw; (try dsimp only at hSw); go_simp; try with_reducible rfl)
  try simp only [Act.put, List.setIfInBounds_toArray, List.set_cons_zero, List.set_cons_succ]
  refine wpAnyH_ready (rs := [1]) (by kernel_rfl) (by simp) ?_
  refine AllReadyH.cons (o := { dst := some 25, op := Go.Op.call { callee := Go.Callee.value (Go.Operand.func 47), args := #[Go.Operand.tmp 24], argTypes := #[45] }, type := 3, pos := "disk.go:74", after := #[{ on := 0, ground := Go.Ground.data }], guard := none }) rfl (fun K hK => ?_) AllReadyH.nil
  go_simp
  refine (rused_any base r X w2 hd2).mono ?_
  rintro en w3 ⟨rfl, rfl⟩
  have hst := hHeld
  go_wp2_with fail
  refine hK.out _ _ (hst) (fun hHeld => ?_)
  clear hK K
  try simp only [Act.put, List.setIfInBounds_toArray, List.set_cons_zero, List.set_cons_succ]
  refine wpAnyH_take (i := 4) (oi := { dst := some 28, op := Go.Op.binOp Go.BinOp.add 3 (Go.Operand.tmp 25) (Go.Operand.tmp 27) 3, type := 3, pos := "disk.go:74", after := #[{ on := 1, ground := Go.Ground.data }, { on := 3, ground := Go.Ground.data }], guard := none }) (v := ?_) rfl (by kernel_rfl) (by kernel_rfl) (by kernel_rfl) (fun _ _ _ h => h) (Or.inl ⟨by rfl, ?_⟩) (by assumption) ?_
  rotate_left
  · (intro w hSw; (try dsimp only at hSw); go_simp; try with_reducible rfl)
  try simp only [Act.put, List.setIfInBounds_toArray, List.set_cons_zero, List.set_cons_succ]
  refine wpAnyH_take (i := 9) (oi := { dst := some 33, op := Go.Op.binOp Go.BinOp.gtr 3 (Go.Operand.tmp 28) (Go.Operand.tmp 32) 3, type := 4, pos := "disk.go:74", after := #[{ on := 4, ground := Go.Ground.data }, { on := 8, ground := Go.Ground.data }], guard := none }) (v := ?_) rfl (by kernel_rfl) (by kernel_rfl) (by kernel_rfl) (fun _ _ _ h => h) (Or.inl ⟨by rfl, ?_⟩) (by assumption) ?_
  rotate_left
  · (intro w hSw; (try dsimp only at hSw); go_simp; try with_reducible rfl)
  try simp only [Act.put, List.setIfInBounds_toArray, List.set_cons_zero, List.set_cons_succ]
  refine wpAnyH_take (i := 10) (oi := { dst := some 34, op := Go.Op.move (Go.Operand.tmp 33), type := 4, pos := "disk.go:74", after := #[{ on := 9, ground := Go.Ground.data }, { on := 1, ground := Go.Ground.chain }], guard := none }) (v := ?_) rfl (by kernel_rfl) (by kernel_rfl) (by kernel_rfl) (fun _ _ _ h => h) (Or.inl ⟨by rfl, ?_⟩) (by assumption) ?_
  rotate_left
  · (intro w hSw; (try dsimp only at hSw); go_simp; try with_reducible rfl)
  try simp only [Act.put, List.setIfInBounds_toArray, List.set_cons_zero, List.set_cons_succ]
  refine wpAnyH_take (i := 11) (oi := { dst := some 35, op := Go.Op.move (Go.Operand.tmp 9), type := 4, pos := "disk.go:74", after := #[{ on := 10, ground := Go.Ground.guard }], guard := some (10, false) }) (v := undef) rfl (by kernel_rfl) (by kernel_rfl) (by kernel_rfl) (fun _ _ _ h => h) (Or.inr ⟨by rfl, rfl⟩) (by assumption) ?_
  try simp only [Act.put, List.setIfInBounds_toArray, List.set_cons_zero, List.set_cons_succ]
  refine wpAnyH_take (i := 12) (oi := { dst := some 36, op := Go.Op.unOp Go.UnOp.not 4 (Go.Operand.tmp 35), type := 4, pos := "disk.go:74", after := #[{ on := 11, ground := Go.Ground.data }, { on := 10, ground := Go.Ground.guard }], guard := some (10, false) }) (v := undef) rfl (by kernel_rfl) (by kernel_rfl) (by kernel_rfl) (fun _ _ _ h => h) (Or.inr ⟨by rfl, rfl⟩) (by assumption) ?_
  try simp only [Act.put, List.setIfInBounds_toArray, List.set_cons_zero, List.set_cons_succ]
  refine wpAnyH_take (i := 13) (oi := { dst := some 37, op := Go.Op.move (Go.Operand.tmp 36), type := 4, pos := "disk.go:74", after := #[{ on := 12, ground := Go.Ground.data }, { on := 10, ground := Go.Ground.chain }, { on := 10, ground := Go.Ground.guard }], guard := some (10, false) }) (v := undef) rfl (by kernel_rfl) (by kernel_rfl) (by kernel_rfl) (fun _ _ _ h => h) (Or.inr ⟨by rfl, rfl⟩) (by assumption) ?_
  try simp only [Act.put, List.setIfInBounds_toArray, List.set_cons_zero, List.set_cons_succ]
  refine wpAnyH_take (i := 14) (oi := { dst := some 38, op := Go.Op.move (Go.Operand.tmp 0), type := 45, pos := "disk.go:74", after := #[{ on := 13, ground := Go.Ground.guard }], guard := some (13, true) }) (v := undef) rfl (by kernel_rfl) (by kernel_rfl) (by kernel_rfl) (fun _ _ _ h => h) (Or.inr ⟨by rfl, rfl⟩) (by assumption) ?_
  try simp only [Act.put, List.setIfInBounds_toArray, List.set_cons_zero, List.set_cons_succ]
  refine wpAnyH_take (i := 15) (oi := { dst := some 39, op := Go.Op.nilCheck (Go.Operand.tmp 38), type := 0, pos := "disk.go:74", after := #[{ on := 14, ground := Go.Ground.data }, { on := 13, ground := Go.Ground.guard }], guard := some (13, true) }) (v := undef) rfl (by kernel_rfl) (by kernel_rfl) (by kernel_rfl) (fun _ _ _ h => h) (Or.inr ⟨by rfl, rfl⟩) (by assumption) ?_
  try simp only [Act.put, List.setIfInBounds_toArray, List.set_cons_zero, List.set_cons_succ]
  refine wpAnyH_take (i := 16) (oi := { dst := some 40, op := Go.Op.fieldAddr 76 (Go.Operand.tmp 39) 1, type := 0, pos := "disk.go:74", after := #[{ on := 15, ground := Go.Ground.data }, { on := 13, ground := Go.Ground.guard }], guard := some (13, true) }) (v := undef) rfl (by kernel_rfl) (by kernel_rfl) (by kernel_rfl) (fun _ _ _ h => h) (Or.inr ⟨by rfl, rfl⟩) (by assumption) ?_
  try simp only [Act.put, List.setIfInBounds_toArray, List.set_cons_zero, List.set_cons_succ]
  refine wpAnyH_take (i := 17) (oi := { dst := some 41, op := Go.Op.load 74 (Go.Operand.tmp 40), type := 74, pos := "disk.go:74", after := #[{ on := 16, ground := Go.Ground.data }, { on := 13, ground := Go.Ground.guard }], guard := some (13, true) }) (v := undef) rfl (by kernel_rfl) (by kernel_rfl) (by kernel_rfl) (fun _ _ _ h => h) (Or.inr ⟨by rfl, rfl⟩) (by assumption) ?_
  try simp only [Act.put, List.setIfInBounds_toArray, List.set_cons_zero, List.set_cons_succ]
  refine wpAnyH_take (i := 18) (oi := { dst := some 42, op := Go.Op.call { callee := Go.Callee.builtin Go.Builtin.len, args := #[Go.Operand.tmp 41], argTypes := #[74] }, type := 3, pos := "disk.go:74", after := #[{ on := 17, ground := Go.Ground.data }, { on := 13, ground := Go.Ground.guard }], guard := some (13, true) }) (v := undef) rfl (by kernel_rfl) (by kernel_rfl) (by kernel_rfl) (fun _ _ _ h => h) (Or.inr ⟨by rfl, rfl⟩) (by assumption) ?_
  try simp only [Act.put, List.setIfInBounds_toArray, List.set_cons_zero, List.set_cons_succ]
  refine wpAnyH_take (i := 19) (oi := { dst := some 43, op := Go.Op.binOp Go.BinOp.geq 3 (Go.Operand.tmp 42) (Go.Operand.const (Go.Value.int Go.IntKind.i64 4096)) 3, type := 4, pos := "disk.go:74", after := #[{ on := 18, ground := Go.Ground.data }, { on := 13, ground := Go.Ground.guard }], guard := some (13, true) }) (v := undef) rfl (by kernel_rfl) (by kernel_rfl) (by kernel_rfl) (fun _ _ _ h => h) (Or.inr ⟨by rfl, rfl⟩) (by assumption) ?_
  try simp only [Act.put, List.setIfInBounds_toArray, List.set_cons_zero, List.set_cons_succ]
  refine wpAnyH_take (i := 20) (oi := { dst := some 44, op := Go.Op.pick (Go.Operand.tmp 37) (Go.Operand.tmp 43) (Go.Operand.const (Go.Value.bool false)), type := 4, pos := "disk.go:74", after := #[{ on := 13, ground := Go.Ground.data }, { on := 19, ground := Go.Ground.data }, { on := 10, ground := Go.Ground.guard }], guard := some (10, false) }) (v := undef) rfl (by kernel_rfl) (by kernel_rfl) (by kernel_rfl) (fun _ _ _ h => h) (Or.inr ⟨by rfl, rfl⟩) (by assumption) ?_
  try simp only [Act.put, List.setIfInBounds_toArray, List.set_cons_zero, List.set_cons_succ]
  refine wpAnyH_take (i := 21) (oi := { dst := some 45, op := Go.Op.pick (Go.Operand.tmp 34) (Go.Operand.const (Go.Value.bool true)) (Go.Operand.tmp 44), type := 4, pos := "disk.go:74", after := #[{ on := 10, ground := Go.Ground.data }, { on := 20, ground := Go.Ground.data }], guard := none }) (v := ?_) rfl (by kernel_rfl) (by kernel_rfl) (by kernel_rfl) (fun _ _ _ h => h) (Or.inl ⟨by rfl, ?_⟩) (by assumption) ?_
  rotate_left
  · (intro w hSw; (try dsimp only at hSw); go_simp; try with_reducible rfl)
  try simp only [Act.put, List.setIfInBounds_toArray, List.set_cons_zero, List.set_cons_succ]
  refine wpAnyH_done (by kernel_rfl) ?_ _
  clear hun
  go_wp2_with fail
  go_ret
  have ht2 : Turn (X.bl r) w w2 := by rw [← hw2]; exact HT1.out.drewN 1
  exact ⟨6, X, rfl, .inr (.inl ⟨H0.out, HFT.out, rfl, rfl⟩), hd2, ht2, fun k hk => .inl hk⟩
set_option maxRecDepth 100000 in
set_option maxHeartbeats 3200000 in
theorem rapp_old (base r : Nat) (X : RDS) (w : World) (h : RW w base r X) (s : List UInt8) (hs : s.length ≤ 140737488351232) (A : Option Addr) (m c : Nat) (nb : List UInt8) (hr : Bs w base A m nb) (hm : m ≤ 1073741824) (h0 : rmayE X.left [s] = 0) (he : spotB s X.L = true) (hfit : X.used + nb.length ≤ X.room) :
    Calls Try.prog 36 #[.pointer (some ⟨r, 0, none⟩), .string (str s), .slice A m c] w (RetX base r X (RAppR X s nb) w) := by
  generalize hW : w.alloc (.cells #[.string (str s)] 9) = W
  have hb0 : Below w.heap.size w W := by rw [← hW]; exact (Below.refl _ _).alloc (Nat.le_refl _) _
  have hW1 : RW W base r X := h.below hb0
  have hrd : Rd W W.heap.size 1 (some ⟨w.heap.size, 0, none⟩) 1 ([s].map sv) := by rw [← hW]; simpa [sv] using Rd.lit_new w ([s].map sv) 9
  have hmay := rmay_any base r X W hW1 (some ⟨w.heap.size, 0, none⟩) 1 1 [s] hrd (by omega) (by intro x hx; simp at hx; subst hx; exact hs)
  rw [h0] at hmay
  have HMAY := Lib.hid hmay
  have H1 := Lib.hid hW1
  have HB0 := Lib.hid hb0
  have c0W : W.cell? ⟨r, 0, none⟩ = some (.int .i64 (X.room : Int)) := by have := hW1.cell; unfold rdcells at this; exact this.cell 0
  have c1W : W.cell? ⟨r, 1, none⟩ = some (.slice X.A X.L.length X.c) := by have := hW1.cell; unfold rdcells RDS.v at this; exact this.cell 1
  have hml : Hid (nb.length = m) := hr.len
  have hro := hW1.room
  have hfew := hW1.few
  have hcap := hW1.cap
  have HRB := Lib.hid (hr.below (hb0.mono h.base_le))
  have hsp := rspot_any base r X W hW1 s
  rw [he] at hsp
  obtain ⟨i, hi⟩ : ∃ i, spotI s X.L = i := ⟨_, rfl⟩
  have hile : i ≤ X.L.length := by rw [← hi]; exact spot_le _ _
  rw [hi] at hsp
  have HSP := Lib.hid hsp
  have HI := Lib.hid hi
  have H0 := Lib.hid h0
  have HE := Lib.hid he
  obtain ⟨f', hf⟩ : ∃ f, X.L[i]? = some f := by
    have : spotB s X.L = true := he
    unfold spotB at this
    rw [hi] at this
    rcases hx : X.L[i]? with _ | f
    · rw [hx] at this; cases this
    · exact ⟨f, rfl⟩
  have hlt0 : Hid (i < X.L.length) := (List.getElem?_eq_some_iff.1 hf).1
  have HF := Lib.hid hf
  have HFT := Lib.hid hfit
  clear h hW1 hmay hb0 h0 hrd he hsp hi hr hf hfit
  go_enter Try.func36, Try.ntmps36
  go_wp2_with fail
  refine (unhide3 HMAY).mono ?_
  rintro en w1 ⟨rfl, rfl⟩
  go_wp2_with fail
  refine (unhide3 HSP).mono ?_
  rintro en w1 ⟨rfl, nq, hw1⟩
  have hd1 : RW w1 base r X := by rw [hw1]; exact H1.out.keep (fun _ _ => rfl) (Nat.le_refl _)
  have ht1 : Turn (X.bl r) w w1 := by rw [hw1]; exact (Turn.of_below HB0.out).drewN nq
  have c01 : w1.cell? ⟨r, 0, none⟩ = some (.int .i64 (X.room : Int)) := by rw [hw1]; exact c0W
  have c11 : w1.cell? ⟨r, 1, none⟩ = some (.slice X.A X.L.length X.c) := by rw [hw1]; exact c1W
  have HRB1 : Hid (Bs w1 base A m nb) := by rw [hw1]; exact HRB.out
  have HT1 := Lib.hid ht1
  have HD1 := Lib.hid hd1
  obtain ⟨n, hn⟩ : ∃ n, n = X.L.length := ⟨_, rfl⟩
  rw [← hn] at c11 hile hfew hcap
  have HN := Lib.hid hn
  have hun : undef = Value.tuple #[] := rfl
  clear hw1 ht1 hd1 c0W c1W HMAY hn HRB
  go_wp2_with fail
  have hwrap : IntKind.i64.wrap ((X.used : Int) + (m : Int)) = (X.used : Int) + (m : Int) := IntWalk.i64_in _ ⟨by omega, by omega⟩
  have q5 : decide ((X.used : Int) + (m : Int) > (X.room : Int)) = false := decide_eq_false (by have := HFT.out; have := hml.out; omega)
  have q6 : decide ((X.room : Int) < (X.used : Int) + (m : Int)) = false := decide_eq_false (by have := HFT.out; have := hml.out; omega)
  have q7 : decide (X.room < X.used + m) = false := decide_eq_false (by have := HFT.out; have := hml.out; omega)
  refine wp_region_held_drew (S := fun w' => w'.cell? ⟨r, 0, none⟩ = some (.int .i64 (X.room : Int)) ∧ w'.cell? ⟨r, 1, none⟩ = some (.slice X.A n X.c)) (by kernel_rfl) (⟨c01, c11⟩) (fun hHeld => ?_)
  obtain ⟨w2, hw2⟩ : ∃ w2, w1.drew = w2 := ⟨_, rfl⟩
  rw [hw2] at hHeld ⊢
  have hd2 : RW w2 base r X := by rw [← hw2]; exact HD1.out.keep (fun _ _ => rfl) (Nat.le_refl _)
  refine wpAnyH_take (i := 0) (oi := { dst := some 24, op := Go.Op.move (Go.Operand.tmp 0), type := 45, pos := "disk.go:74", after := #[], guard := none }) (v := ?_) rfl (by kernel_rfl) (by kernel_rfl) (by kernel_rfl) (fun _ _ _ h => h) (Or.inl ⟨by rfl, ?_⟩) (by assumption) ?_
  rotate_left
  · (intro w hSw; (try dsimp only at hSw); go_simp; try with_reducible rfl)
  try simp only [Act.put, List.setIfInBounds_toArray, List.set_cons_zero, List.set_cons_succ]
  refine wpAnyH_take (i := 2) (oi := { dst := some 26, op := Go.Op.move (Go.Operand.tmp 2), type := 23, pos := "disk.go:74", after := #[], guard := none }) (v := ?_) rfl (by kernel_rfl) (by kernel_rfl) (by kernel_rfl) (fun _ _ _ h => h) (Or.inl ⟨by rfl, ?_⟩) (by assumption) ?_
  rotate_left
  · (intro w hSw; (try dsimp only at hSw); go_simp; try with_reducible rfl)
  try simp only [Act.put, List.setIfInBounds_toArray, List.set_cons_zero, List.set_cons_succ]
  refine wpAnyH_take (i := 3) (oi := { dst := some 27, op := Go.Op.call { callee := Go.Callee.builtin Go.Builtin.len, args := #[Go.Operand.tmp 26], argTypes := #[23] }, type := 3, pos := "disk.go:74", after := #[{ on := 2, ground := Go.Ground.data }], guard := none }) (v := ?_) rfl (by kernel_rfl) (by kernel_rfl) (by kernel_rfl) (fun _ _ _ h => h) (Or.inl ⟨by rfl, ?_⟩) (by assumption) ?_
  rotate_left
  · (intro w hSw; (try dsimp only at hSw); go_simp; try with_reducible rfl)
  try simp only [Act.put, List.setIfInBounds_toArray, List.set_cons_zero, List.set_cons_succ]
  refine wpAnyH_take (i := 5) (oi := { dst := some 29, op := Go.Op.move (Go.Operand.tmp 0), type := 45, pos := "disk.go:74", after := #[], guard := none }) (v := ?_) rfl (by kernel_rfl) (by kernel_rfl) (by kernel_rfl) (fun _ _ _ h => h) (Or.inl ⟨by rfl, ?_⟩) (by assumption) ?_
  rotate_left
  · (intro w hSw; (try dsimp only at hSw); go_simp; try with_reducible rfl)
  try simp only [Act.put, List.setIfInBounds_toArray, List.set_cons_zero, List.set_cons_succ]
  refine wpAnyH_take (i := 6) (oi := { dst := some 30, op := Go.Op.nilCheck (Go.Operand.tmp 29), type := 0, pos := "disk.go:74", after := #[{ on := 5, ground := Go.Ground.data }], guard := none }) (v := ?_) rfl (by kernel_rfl) (by kernel_rfl) (by kernel_rfl) (fun _ _ _ h => h) (Or.inl ⟨by rfl, ?_⟩) (by assumption) ?_
  rotate_left
  · (intro w hSw; (try dsimp only at hSw); go_simp; try with_reducible rfl)
  try simp only [Act.put, List.setIfInBounds_toArray, List.set_cons_zero, List.set_cons_succ]
  refine wpAnyH_take (i := 7) (oi := { dst := some 31, op := Go.Op.fieldAddr 76 (Go.Operand.tmp 30) 0, type := 0, pos := "disk.go:74", after := #[{ on := 6, ground := Go.Ground.data }], guard := none }) (v := ?_) rfl (by kernel_rfl) (by kernel_rfl) (by kernel_rfl) (fun _ _ _ h => h) (Or.inl ⟨by rfl, ?_⟩) (by assumption) ?_
  rotate_left
  · (intro w hSw; (try dsimp only at hSw); go_simp; try with_reducible rfl)
  try simp only [Act.put, List.setIfInBounds_toArray, List.set_cons_zero, List.set_cons_succ]
  refine wpAnyH_take (i := 8) (oi := { dst := some 32, op := Go.Op.load 3 (Go.Operand.tmp 31), type := 3, pos := "disk.go:74", after := #[{ on := 7, ground := Go.Ground.data }], guard := none }) (v := ?_) rfl (by kernel_rfl) (by kernel_rfl) (by kernel_rfl) (fun _ _ _ h => h) (Or.inl ⟨by rfl, ?_⟩) (by assumption) ?_
  rotate_left
  · (intro w hSw; (try dsimp only at hSw); go_simp; try with_reducible rfl)
  try simp only [Act.put, List.setIfInBounds_toArray, List.set_cons_zero, List.set_cons_succ]
  refine wpAnyH_ready (rs := [1]) (by kernel_rfl) (by simp) ?_
  refine AllReadyH.cons (o := { dst := some 25, op := Go.Op.call { callee := Go.Callee.value (Go.Operand.func 47), args := #[Go.Operand.tmp 24], argTypes := #[45] }, type := 3, pos := "disk.go:74", after := #[{ on := 0, ground := Go.Ground.data }], guard := none }) rfl (fun K hK => ?_) AllReadyH.nil
  go_simp
  refine (rused_any base r X w2 hd2).mono ?_
  rintro en w3 ⟨rfl, rfl⟩
  have hst := hHeld
  go_wp2_with fail
  refine hK.out _ _ (hst) (fun hHeld => ?_)
  clear hK K
  try simp only [Act.put, List.setIfInBounds_toArray, List.set_cons_zero, List.set_cons_succ]
  refine wpAnyH_take (i := 4) (oi := { dst := some 28, op := Go.Op.binOp Go.BinOp.add 3 (Go.Operand.tmp 25) (Go.Operand.tmp 27) 3, type := 3, pos := "disk.go:74", after := #[{ on := 1, ground := Go.Ground.data }, { on := 3, ground := Go.Ground.data }], guard := none }) (v := ?_) rfl (by kernel_rfl) (by kernel_rfl) (by kernel_rfl) (fun _ _ _ h => h) (Or.inl ⟨by rfl, ?_⟩) (by assumption) ?_
  rotate_left
  · (intro w hSw; (try dsimp only at hSw); go_simp; try with_reducible rfl)
  try simp only [Act.put, List.setIfInBounds_toArray, List.set_cons_zero, List.set_cons_succ]
  refine wpAnyH_take (i := 9) (oi := { dst := some 33, op := Go.Op.binOp Go.BinOp.gtr 3 (Go.Operand.tmp 28) (Go.Operand.tmp 32) 3, type := 4, pos := "disk.go:74", after := #[{ on := 4, ground := Go.Ground.data }, { on := 8, ground := Go.Ground.data }], guard := none }) (v := ?_) rfl (by kernel_rfl) (by kernel_rfl) (by kernel_rfl) (fun _ _ _ h => h) (Or.inl ⟨by rfl, ?_⟩) (by assumption) ?_
  rotate_left
  · (intro w hSw; (try dsimp only at hSw); go_simp; try with_reducible rfl)
  try simp only [Act.put, List.setIfInBounds_toArray, List.set_cons_zero, List.set_cons_succ]
  refine wpAnyH_take (i := 10) (oi := { dst := some 34, op := Go.Op.move (Go.Operand.tmp 33), type := 4, pos := "disk.go:74", after := #[{ on := 9, ground := Go.Ground.data }, { on := 1, ground := Go.Ground.chain }], guard := none }) (v := ?_) rfl (by kernel_rfl) (by kernel_rfl) (by kernel_rfl) (fun _ _ _ h => h) (Or.inl ⟨by rfl, ?_⟩) (by assumption) ?_
  rotate_left
  · (intro w hSw; (try dsimp only at hSw); go_simp; try with_reducible rfl)
  try simp only [Act.put, List.setIfInBounds_toArray, List.set_cons_zero, List.set_cons_succ]
  refine wpAnyH_take (i := 11) (oi := { dst := some 35, op := Go.Op.move (Go.Operand.tmp 9), type := 4, pos := "disk.go:74", after := #[{ on := 10, ground := Go.Ground.guard }], guard := some (10, false) }) (v := ?_) rfl (by kernel_rfl) (by kernel_rfl) (by kernel_rfl) (fun _ _ _ h => h) (Or.inl ⟨by rfl, ?_⟩) (by assumption) ?_
  rotate_left
  · (intro w hSw; (try dsimp only at hSw); go_simp; try with_reducible rfl)
  try simp only [Act.put, List.setIfInBounds_toArray, List.set_cons_zero, List.set_cons_succ]
  refine wpAnyH_take (i := 12) (oi := { dst := some 36, op := Go.Op.unOp Go.UnOp.not 4 (Go.Operand.tmp 35), type := 4, pos := "disk.go:74", after := #[{ on := 11, ground := Go.Ground.data }, { on := 10, ground := Go.Ground.guard }], guard := some (10, false) }) (v := ?_) rfl (by kernel_rfl) (by kernel_rfl) (by kernel_rfl) (fun _ _ _ h => h) (Or.inl ⟨by rfl, ?_⟩) (by assumption) ?_
  rotate_left
  · (intro w hSw; (try dsimp only at hSw); go_simp; try with_reducible rfl)
  try simp only [Act.put, List.setIfInBounds_toArray, List.set_cons_zero, List.set_cons_succ]
  refine wpAnyH_take (i := 13) (oi := { dst := some 37, op := Go.Op.move (Go.Operand.tmp 36), type := 4, pos := "disk.go:74", after := #[{ on := 12, ground := Go.Ground.data }, { on := 10, ground := Go.Ground.chain }, { on := 10, ground := Go.Ground.guard }], guard := some (10, false) }) (v := ?_) rfl (by kernel_rfl) (by kernel_rfl) (by kernel_rfl) (fun _ _ _ h => h) (Or.inl ⟨by rfl, ?_⟩) (by assumption) ?_
  rotate_left
  · (intro w hSw; (try dsimp only at hSw); go_simp; try with_reducible rfl)
  try simp only [Act.put, List.setIfInBounds_toArray, List.set_cons_zero, List.set_cons_succ]
  refine wpAnyH_take (i := 14) (oi := { dst := some 38, op := Go.Op.move (Go.Operand.tmp 0), type := 45, pos := "disk.go:74", after := #[{ on := 13, ground := Go.Ground.guard }], guard := some (13, true) }) (v := undef) rfl (by kernel_rfl) (by kernel_rfl) (by kernel_rfl) (fun _ _ _ h => h) (Or.inr ⟨by rfl, rfl⟩) (by assumption) ?_
  try simp only [Act.put, List.setIfInBounds_toArray, List.set_cons_zero, List.set_cons_succ]
  refine wpAnyH_take (i := 15) (oi := { dst := some 39, op := Go.Op.nilCheck (Go.Operand.tmp 38), type := 0, pos := "disk.go:74", after := #[{ on := 14, ground := Go.Ground.data }, { on := 13, ground := Go.Ground.guard }], guard := some (13, true) }) (v := undef) rfl (by kernel_rfl) (by kernel_rfl) (by kernel_rfl) (fun _ _ _ h => h) (Or.inr ⟨by rfl, rfl⟩) (by assumption) ?_
  try simp only [Act.put, List.setIfInBounds_toArray, List.set_cons_zero, List.set_cons_succ]
  refine wpAnyH_take (i := 16) (oi := { dst := some 40, op := Go.Op.fieldAddr 76 (Go.Operand.tmp 39) 1, type := 0, pos := "disk.go:74", after := #[{ on := 15, ground := Go.Ground.data }, { on := 13, ground := Go.Ground.guard }], guard := some (13, true) }) (v := undef) rfl (by kernel_rfl) (by kernel_rfl) (by kernel_rfl) (fun _ _ _ h => h) (Or.inr ⟨by rfl, rfl⟩) (by assumption) ?_
  try simp only [Act.put, List.setIfInBounds_toArray, List.set_cons_zero, List.set_cons_succ]
  refine wpAnyH_take (i := 17) (oi := { dst := some 41, op := Go.Op.load 74 (Go.Operand.tmp 40), type := 74, pos := "disk.go:74", after := #[{ on := 16, ground := Go.Ground.data }, { on := 13, ground := Go.Ground.guard }], guard := some (13, true) }) (v := undef) rfl (by kernel_rfl) (by kernel_rfl) (by kernel_rfl) (fun _ _ _ h => h) (Or.inr ⟨by rfl, rfl⟩) (by assumption) ?_
  try simp only [Act.put, List.setIfInBounds_toArray, List.set_cons_zero, List.set_cons_succ]
  refine wpAnyH_take (i := 18) (oi := { dst := some 42, op := Go.Op.call { callee := Go.Callee.builtin Go.Builtin.len, args := #[Go.Operand.tmp 41], argTypes := #[74] }, type := 3, pos := "disk.go:74", after := #[{ on := 17, ground := Go.Ground.data }, { on := 13, ground := Go.Ground.guard }], guard := some (13, true) }) (v := undef) rfl (by kernel_rfl) (by kernel_rfl) (by kernel_rfl) (fun _ _ _ h => h) (Or.inr ⟨by rfl, rfl⟩) (by assumption) ?_
  try simp only [Act.put, List.setIfInBounds_toArray, List.set_cons_zero, List.set_cons_succ]
  refine wpAnyH_take (i := 19) (oi := { dst := some 43, op := Go.Op.binOp Go.BinOp.geq 3 (Go.Operand.tmp 42) (Go.Operand.const (Go.Value.int Go.IntKind.i64 4096)) 3, type := 4, pos := "disk.go:74", after := #[{ on := 18, ground := Go.Ground.data }, { on := 13, ground := Go.Ground.guard }], guard := some (13, true) }) (v := undef) rfl (by kernel_rfl) (by kernel_rfl) (by kernel_rfl) (fun _ _ _ h => h) (Or.inr ⟨by rfl, rfl⟩) (by assumption) ?_
  try simp only [Act.put, List.setIfInBounds_toArray, List.set_cons_zero, List.set_cons_succ]
  refine wpAnyH_take (i := 20) (oi := { dst := some 44, op := Go.Op.pick (Go.Operand.tmp 37) (Go.Operand.tmp 43) (Go.Operand.const (Go.Value.bool false)), type := 4, pos := "disk.go:74", after := #[{ on := 13, ground := Go.Ground.data }, { on := 19, ground := Go.Ground.data }, { on := 10, ground := Go.Ground.guard }], guard := some (10, false) }) (v := ?_) rfl (by kernel_rfl) (by kernel_rfl) (by kernel_rfl) (fun _ _ _ h => h) (Or.inl ⟨by rfl, ?_⟩) (by assumption) ?_
  rotate_left
  · (intro w hSw; (try dsimp only at hSw); go_simp; try with_reducible rfl)
  try simp only [Act.put, List.setIfInBounds_toArray, List.set_cons_zero, List.set_cons_succ]
  refine wpAnyH_take (i := 21) (oi := { dst := some 45, op := Go.Op.pick (Go.Operand.tmp 34) (Go.Operand.const (Go.Value.bool true)) (Go.Operand.tmp 44), type := 4, pos := "disk.go:74", after := #[{ on := 10, ground := Go.Ground.data }, { on := 20, ground := Go.Ground.data }], guard := none }) (v := ?_) rfl (by kernel_rfl) (by kernel_rfl) (by kernel_rfl) (fun _ _ _ h => h) (Or.inl ⟨by rfl, ?_⟩) (by assumption) ?_
  rotate_left
  · (intro w hSw; (try dsimp only at hSw); go_simp; try with_reducible rfl)
  try simp only [Act.put, List.setIfInBounds_toArray, List.set_cons_zero, List.set_cons_succ]
  refine wpAnyH_done (by kernel_rfl) ?_ _
  clear hun
  have HDY := Lib.hid hd2
  have HTY : Hid (Turn (X.bl r) w w2 ∧ ∀ q ∈ X.bl r, q ∈ X.bl r ∨ w.heap.size ≤ q) := ⟨by rw [← hw2]; exact HT1.out.drewN 1, fun q hq => .inl hq⟩
  have HNB2 : Hid (Bs w2 base A m nb) := by rw [← hw2]; exact HRB1.out
  have HUS : Hid (X.used + nb.length ≤ X.room) := HFT.out
  have hlt := hlt0.out
  clear hd2 hw2 c01 c11 hHeld q5 q6 q7 hst hwrap hlt0
  obtain ⟨Y, hY⟩ : ∃ Y, Y = X := ⟨_, rfl⟩
  rw [← hY] at HDY HF hlt HTY HUS
  have HTY : Hid (Turn (X.bl r) w w2 ∧ ∀ q ∈ Y.bl r, q ∈ X.bl r ∨ w.heap.size ≤ q) := by rw [hY] at HTY ⊢; exact HTY
  go_wp2_with fail
  obtain ⟨g, f2, hA, hg, hf2, hmem, k0, k1, k2, hfr, hcy1, hcy2⟩ := HDY.out.at_ hlt
  obtain rfl : f2 = f' := by rw [HF.out] at hf2; injection hf2 with hf2; exact hf2.symm
  have hcc := HDY.out.cell
  unfold rdcells RDS.v at hcc
  have c12 : w2.cell? ⟨r, 1, none⟩ = some (.slice (some ⟨g, 0, none⟩) Y.L.length Y.c) := by have := hcc.cell 1; rw [hA] at this; exact this
  have hgr : g ≠ r := HDY.out.ne_rv hg
  have HG := Lib.hid hg
  have HM := Lib.hid hmem
  have HFL := Lib.hid (HDY.out.file f2 hmem)
  have hle : f2.b.length ≤ 1073741824 := by
    have h1 := HDY.out.room
    have h2 : f2.b.length ≤ Y.used := by
      have : ∀ L : List RFE, f2 ∈ L → f2.b.length ≤ (L.map fun f => f.b.length).sum := by
        intro L
        induction L with
        | nil => intro h; simp at h
        | cons x r ih =>
          intro h
          simp only [List.map_cons, List.sum_cons]
          rcases List.mem_cons.1 h with rfl | h3
          · omega
          · have := ih h3; omega
      exact this Y.L hmem
    omega
  obtain ⟨ny, hny⟩ : ∃ ny, ny = Y.L.length := ⟨_, rfl⟩
  rw [← hny] at c12 hlt hcy1
  have HNY := Lib.hid hny
  have hfewy := HDY.out.few
  rw [← hny] at hfewy
  clear hcc hA hg hf2 hmem hfr hny
  refine wp_region_held_drew (S := fun w' => w'.cell? ⟨r, 1, none⟩ = some (.slice (some ⟨g, 0, none⟩) ny Y.c)) (by kernel_rfl) (c12) (fun hHeld => ?_)
  obtain ⟨w3, hw3⟩ : ∃ w3, w2.drew = w3 := ⟨_, rfl⟩
  rw [hw3] at hHeld ⊢
  have hd3 : RW w3 base r Y := by rw [← hw3]; exact HDY.out.keep (fun _ _ => rfl) (Nat.le_refl _)
  have HNB3 : Hid (Bs w3 base A m nb) := by rw [← hw3]; exact HNB2.out
  have c13 : w3.cell? ⟨r, 1, none⟩ = some (.slice (some ⟨g, 0, none⟩) ny Y.c) := by rw [← hw3]; exact c12
  have k13 : w3.cell? ⟨g, i * 3 + 1, none⟩ = some (.slice f2.A f2.b.length f2.c) := by rw [← hw3]; exact k1
  have hrl : r < w3.heap.size := (hd3.ge r (rbl_r r Y)).2
  have hgl : g < w3.heap.size := (hd3.ge g (rbl_v HG.out)).2
  have hbs3 : Bs w3 w3.heap.size f2.A f2.b.length f2.b := (hd3.file f2 HM.out).1.bs
  clear c12 k0 k1 k2
  refine wpAnyH_take (i := 0) (oi := { dst := some 72, op := Go.Op.move (Go.Operand.tmp 0), type := 45, pos := "disk.go:82", after := #[], guard := none }) (v := ?_) rfl (by kernel_rfl) (by kernel_rfl) (by kernel_rfl) (fun _ _ _ h => h) (Or.inl ⟨by rfl, ?_⟩) (by assumption) ?_
  rotate_left
  · (intro w hSw; (try dsimp only at hSw); go_simp; try with_reducible rfl)
  try simp only [Act.put, List.setIfInBounds_toArray, List.set_cons_zero, List.set_cons_succ]
  refine wpAnyH_take (i := 1) (oi := { dst := some 73, op := Go.Op.nilCheck (Go.Operand.tmp 72), type := 0, pos := "disk.go:82", after := #[{ on := 0, ground := Go.Ground.data }], guard := none }) (v := ?_) rfl (by kernel_rfl) (by kernel_rfl) (by kernel_rfl) (fun _ _ _ h => h) (Or.inl ⟨by rfl, ?_⟩) (by assumption) ?_
  rotate_left
  · (intro w hSw; (try dsimp only at hSw); go_simp; try with_reducible rfl)
  try simp only [Act.put, List.setIfInBounds_toArray, List.set_cons_zero, List.set_cons_succ]
  refine wpAnyH_take (i := 2) (oi := { dst := some 74, op := Go.Op.fieldAddr 76 (Go.Operand.tmp 73) 1, type := 0, pos := "disk.go:82", after := #[{ on := 1, ground := Go.Ground.data }], guard := none }) (v := ?_) rfl (by kernel_rfl) (by kernel_rfl) (by kernel_rfl) (fun _ _ _ h => h) (Or.inl ⟨by rfl, ?_⟩) (by assumption) ?_
  rotate_left
  · (intro w hSw; (try dsimp only at hSw); go_simp; try with_reducible rfl)
  try simp only [Act.put, List.setIfInBounds_toArray, List.set_cons_zero, List.set_cons_succ]
  refine wpAnyH_take (i := 3) (oi := { dst := some 75, op := Go.Op.load 74 (Go.Operand.tmp 74), type := 74, pos := "disk.go:82", after := #[{ on := 2, ground := Go.Ground.data }], guard := none }) (v := ?_) rfl (by kernel_rfl) (by kernel_rfl) (by kernel_rfl) (fun _ _ _ h => h) (Or.inl ⟨by rfl, ?_⟩) (by assumption) ?_
  rotate_left
  · (intro w hSw; (try dsimp only at hSw); go_simp; try with_reducible rfl)
  try simp only [Act.put, List.setIfInBounds_toArray, List.set_cons_zero, List.set_cons_succ]
  refine wpAnyH_take (i := 4) (oi := { dst := some 76, op := Go.Op.move (Go.Operand.tmp 8), type := 3, pos := "disk.go:82", after := #[], guard := none }) (v := ?_) rfl (by kernel_rfl) (by kernel_rfl) (by kernel_rfl) (fun _ _ _ h => h) (Or.inl ⟨by rfl, ?_⟩) (by assumption) ?_
  rotate_left
  · (intro w hSw; (try dsimp only at hSw); go_simp; try with_reducible rfl)
  try simp only [Act.put, List.setIfInBounds_toArray, List.set_cons_zero, List.set_cons_succ]
  refine wpAnyH_take (i := 6) (oi := { dst := some 78, op := Go.Op.move (Go.Operand.tmp 0), type := 45, pos := "disk.go:82", after := #[], guard := none }) (v := ?_) rfl (by kernel_rfl) (by kernel_rfl) (by kernel_rfl) (fun _ _ _ h => h) (Or.inl ⟨by rfl, ?_⟩) (by assumption) ?_
  rotate_left
  · (intro w hSw; (try dsimp only at hSw); go_simp; try with_reducible rfl)
  try simp only [Act.put, List.setIfInBounds_toArray, List.set_cons_zero, List.set_cons_succ]
  refine wpAnyH_take (i := 7) (oi := { dst := some 79, op := Go.Op.nilCheck (Go.Operand.tmp 78), type := 0, pos := "disk.go:82", after := #[{ on := 6, ground := Go.Ground.data }], guard := none }) (v := ?_) rfl (by kernel_rfl) (by kernel_rfl) (by kernel_rfl) (fun _ _ _ h => h) (Or.inl ⟨by rfl, ?_⟩) (by assumption) ?_
  rotate_left
  · (intro w hSw; (try dsimp only at hSw); go_simp; try with_reducible rfl)
  try simp only [Act.put, List.setIfInBounds_toArray, List.set_cons_zero, List.set_cons_succ]
  refine wpAnyH_take (i := 8) (oi := { dst := some 80, op := Go.Op.fieldAddr 76 (Go.Operand.tmp 79) 1, type := 0, pos := "disk.go:82", after := #[{ on := 7, ground := Go.Ground.data }], guard := none }) (v := ?_) rfl (by kernel_rfl) (by kernel_rfl) (by kernel_rfl) (fun _ _ _ h => h) (Or.inl ⟨by rfl, ?_⟩) (by assumption) ?_
  rotate_left
  · (intro w hSw; (try dsimp only at hSw); go_simp; try with_reducible rfl)
  try simp only [Act.put, List.setIfInBounds_toArray, List.set_cons_zero, List.set_cons_succ]
  refine wpAnyH_take (i := 9) (oi := { dst := some 81, op := Go.Op.load 74 (Go.Operand.tmp 80), type := 74, pos := "disk.go:82", after := #[{ on := 8, ground := Go.Ground.data }], guard := none }) (v := ?_) rfl (by kernel_rfl) (by kernel_rfl) (by kernel_rfl) (fun _ _ _ h => h) (Or.inl ⟨by rfl, ?_⟩) (by assumption) ?_
  rotate_left
  · (intro w hSw; (try dsimp only at hSw); go_simp; try with_reducible rfl)
  try simp only [Act.put, List.setIfInBounds_toArray, List.set_cons_zero, List.set_cons_succ]
  refine wpAnyH_take (i := 10) (oi := { dst := some 82, op := Go.Op.move (Go.Operand.tmp 8), type := 3, pos := "disk.go:82", after := #[], guard := none }) (v := ?_) rfl (by kernel_rfl) (by kernel_rfl) (by kernel_rfl) (fun _ _ _ h => h) (Or.inl ⟨by rfl, ?_⟩) (by assumption) ?_
  rotate_left
  · (intro w hSw; (try dsimp only at hSw); go_simp; try with_reducible rfl)
  try simp only [Act.put, List.setIfInBounds_toArray, List.set_cons_zero, List.set_cons_succ]
  refine wpAnyH_take (i := 11) (oi := { dst := some 83, op := Go.Op.indexAddr 74 (Go.Operand.tmp 81) (Go.Operand.tmp 82), type := 0, pos := "disk.go:82", after := #[{ on := 9, ground := Go.Ground.data }, { on := 10, ground := Go.Ground.data }], guard := none }) (v := ?_) rfl (by kernel_rfl) (by kernel_rfl) (by kernel_rfl) (fun _ _ _ h => h) (Or.inl ⟨by rfl, ?_⟩) (by assumption) ?_
  rotate_left
  · (intro w hSw; (try dsimp only at hSw); go_simp; try with_reducible rfl)
  try simp only [Act.put, List.setIfInBounds_toArray, List.set_cons_zero, List.set_cons_succ]
  refine wpAnyH_take (i := 12) (oi := { dst := some 84, op := Go.Op.fieldAddr 78 (Go.Operand.tmp 83) 1, type := 0, pos := "disk.go:82", after := #[{ on := 11, ground := Go.Ground.data }], guard := none }) (v := ?_) rfl (by kernel_rfl) (by kernel_rfl) (by kernel_rfl) (fun _ _ _ h => h) (Or.inl ⟨by rfl, ?_⟩) (by assumption) ?_
  rotate_left
  · (intro w hSw; (try dsimp only at hSw); go_simp; try with_reducible rfl)
  try simp only [Act.put, List.setIfInBounds_toArray, List.set_cons_zero, List.set_cons_succ]
  refine wpAnyH_take (i := 15) (oi := { dst := some 87, op := Go.Op.move (Go.Operand.tmp 2), type := 23, pos := "disk.go:82", after := #[], guard := none }) (v := ?_) rfl (by kernel_rfl) (by kernel_rfl) (by kernel_rfl) (fun _ _ _ h => h) (Or.inl ⟨by rfl, ?_⟩) (by assumption) ?_
  rotate_left
  · (intro w hSw; (try dsimp only at hSw); go_simp; try with_reducible rfl)
  try simp only [Act.put, List.setIfInBounds_toArray, List.set_cons_zero, List.set_cons_succ]
  refine wpAnyH_ready (rs := [5, 13]) (by kernel_rfl) (by simp) ?_
  refine AllReadyH.cons (o := { dst := some 77, op := Go.Op.buildSlice 23 0 #[], type := 23, pos := "disk.go:82", after := #[], guard := none }) rfl (fun K hK => ?_) ?_
  go_simp
  obtain ⟨wA, hwA⟩ : ∃ wA, w3.alloc (.cells #[] 5) = wA := ⟨_, rfl⟩
  rw [hwA]
  have bA : Below w3.heap.size w3 wA := by rw [← hwA]; exact below_refl_alloc _ _
  have c1A : wA.cell? ⟨r, 1, none⟩ = some (.slice (some ⟨g, 0, none⟩) ny Y.c) := (bA.cell (p := ⟨r, 1, none⟩) hrl).trans c13
  have k1A : wA.cell? ⟨g, i * 3 + 1, none⟩ = some (.slice f2.A f2.b.length f2.c) := (bA.cell (p := ⟨g, i * 3 + 1, none⟩) hgl).trans k13
  refine hK.out _ _ (c1A) (fun hHeld => ?_)
  clear hK K
  try simp only [Act.put, List.setIfInBounds_toArray, List.set_cons_zero, List.set_cons_succ]
  refine wpAnyH_ready (rs := [13]) (by kernel_rfl) (by simp) ?_
  refine AllReadyH.cons (o := { dst := some 85, op := Go.Op.load 23 (Go.Operand.tmp 84), type := 23, pos := "disk.go:82", after := #[{ on := 12, ground := Go.Ground.data }], guard := none }) rfl (fun K hK => ?_) AllReadyH.nil
  go_simp
  refine hK.out _ _ (c1A) (fun hHeld => ?_)
  clear hK K
  try simp only [Act.put, List.setIfInBounds_toArray, List.set_cons_zero, List.set_cons_succ]
  refine wpAnyH_ready (rs := [14]) (by kernel_rfl) (by simp) ?_
  refine AllReadyH.cons (o := { dst := some 86, op := Go.Op.call { callee := Go.Callee.builtin Go.Builtin.append, args := #[Go.Operand.tmp 77, Go.Operand.tmp 85], argTypes := #[23, 23] }, type := 23, pos := "disk.go:82", after := #[{ on := 5, ground := Go.Ground.data }, { on := 13, ground := Go.Ground.data }], guard := none }) rfl (fun K hK => ?_) AllReadyH.nil
  rw [if_pos (by rfl)]
  refine wpB_append_op (.tmp 77) (.tmp 85) rfl w3.heap.size _ 0 [] rfl (by rw [← hwA]; exact own_empty w3 _ _) w3.heap.size f2.A f2.b.length f2.c f2.b rfl (hbs3.below bA) f2.b.length f2.b (by omega) rfl (by omega) bA.size ?_
  intro A7 c7 w7 o7 b7 hc7 hm7
  have b37 : Below w3.heap.size w3 w7 := bA.trans b7
  have c17 : w7.cell? ⟨r, 1, none⟩ = some (.slice (some ⟨g, 0, none⟩) ny Y.c) := (b37.cell (p := ⟨r, 1, none⟩) hrl).trans c13
  refine hK.out _ _ (c17) (fun hHeld => ?_)
  clear hK K
  try simp only [Act.put, List.setIfInBounds_toArray, List.set_cons_zero, List.set_cons_succ]
  refine wpAnyH_ready (rs := [16]) (by kernel_rfl) (by simp) ?_
  refine AllReadyH.cons (o := { dst := some 88, op := Go.Op.call { callee := Go.Callee.builtin Go.Builtin.append, args := #[Go.Operand.tmp 86, Go.Operand.tmp 87], argTypes := #[23, 23] }, type := 23, pos := "disk.go:82", after := #[{ on := 14, ground := Go.Ground.data }, { on := 15, ground := Go.Ground.data }, { on := 14, ground := Go.Ground.chain }], guard := none }) rfl (fun K hK => ?_) AllReadyH.nil
  rw [if_pos (by rfl)]
  refine wpB_append_op (.tmp 86) (.tmp 87) rfl w3.heap.size _ f2.b.length f2.b rfl o7 base A m c nb rfl (HNB3.out.below (b37.mono hd3.base_le)) (f2.b.length + m) (f2.b ++ nb) rfl rfl (by omega) b37.size ?_
  intro A8 c8 w8 o8 b8 hc8 hm8
  have b38 : Below w3.heap.size w3 w8 := b37.trans b8
  have c18 : w8.cell? ⟨r, 1, none⟩ = some (.slice (some ⟨g, 0, none⟩) ny Y.c) := (b38.cell (p := ⟨r, 1, none⟩) hrl).trans c13
  have k18 : w8.cell? ⟨g, i * 3 + 1, none⟩ = some (.slice f2.A f2.b.length f2.c) := (b38.cell (p := ⟨g, i * 3 + 1, none⟩) hgl).trans k13
  have fz8 : w8.frozen? ⟨g, i * 3 + 1, none⟩ = false := by
    obtain ⟨cs, hb⟩ := (hd3.below b38).row_blk HG.out
    exact hb.free _
  refine hK.out _ _ (c18) (fun hHeld => ?_)
  clear hK K
  try simp only [Act.put, List.setIfInBounds_toArray, List.set_cons_zero, List.set_cons_succ]
  refine wpAnyH_take (i := 17) (oi := { dst := some 89, op := Go.Op.indexAddr 74 (Go.Operand.tmp 75) (Go.Operand.tmp 76), type := 0, pos := "disk.go:82", after := #[{ on := 3, ground := Go.Ground.data }, { on := 4, ground := Go.Ground.data }, { on := 0, ground := Go.Ground.phase }, { on := 1, ground := Go.Ground.phase }, { on := 2, ground := Go.Ground.phase }, { on := 3, ground := Go.Ground.phase }, { on := 4, ground := Go.Ground.phase }, { on := 5, ground := Go.Ground.phase }, { on := 6, ground := Go.Ground.phase }, { on := 7, ground := Go.Ground.phase }, { on := 8, ground := Go.Ground.phase }, { on := 9, ground := Go.Ground.phase }, { on := 10, ground := Go.Ground.phase }, { on := 11, ground := Go.Ground.phase }, { on := 12, ground := Go.Ground.phase }, { on := 13, ground := Go.Ground.phase }, { on := 14, ground := Go.Ground.phase }, { on := 15, ground := Go.Ground.phase }, { on := 16, ground := Go.Ground.phase }], guard := none }) (v := ?_) rfl (by kernel_rfl) (by kernel_rfl) (by kernel_rfl) (fun _ _ _ h => h) (Or.inl ⟨by rfl, ?_⟩) (by assumption) ?_
  rotate_left
  · (intro w hSw; (try dsimp only at hSw); go_simp; try with_reducible rfl)
  try simp only [Act.put, List.setIfInBounds_toArray, List.set_cons_zero, List.set_cons_succ]
  refine wpAnyH_take (i := 18) (oi := { dst := some 90, op := Go.Op.fieldAddr 78 (Go.Operand.tmp 89) 1, type := 0, pos := "disk.go:82", after := #[{ on := 17, ground := Go.Ground.data }, { on := 0, ground := Go.Ground.phase }, { on := 1, ground := Go.Ground.phase }, { on := 2, ground := Go.Ground.phase }, { on := 3, ground := Go.Ground.phase }, { on := 4, ground := Go.Ground.phase }, { on := 5, ground := Go.Ground.phase }, { on := 6, ground := Go.Ground.phase }, { on := 7, ground := Go.Ground.phase }, { on := 8, ground := Go.Ground.phase }, { on := 9, ground := Go.Ground.phase }, { on := 10, ground := Go.Ground.phase }, { on := 11, ground := Go.Ground.phase }, { on := 12, ground := Go.Ground.phase }, { on := 13, ground := Go.Ground.phase }, { on := 14, ground := Go.Ground.phase }, { on := 15, ground := Go.Ground.phase }, { on := 16, ground := Go.Ground.phase }], guard := none }) (v := ?_) rfl (by kernel_rfl) (by kernel_rfl) (by kernel_rfl) (fun _ _ _ h => h) (Or.inl ⟨by rfl, ?_⟩) (by assumption) ?_
  rotate_left
  · (intro w hSw; (try dsimp only at hSw); go_simp; try with_reducible rfl)
  try simp only [Act.put, List.setIfInBounds_toArray, List.set_cons_zero, List.set_cons_succ]
  refine wpAnyH_ready (rs := [19]) (by kernel_rfl) (by simp) ?_
  refine AllReadyH.cons (o := { dst := none, op := Go.Op.store 23 (Go.Operand.tmp 90) (Go.Operand.tmp 88), type := 0, pos := "disk.go:82", after := #[{ on := 18, ground := Go.Ground.data }, { on := 16, ground := Go.Ground.data }, { on := 16, ground := Go.Ground.chain }, { on := 0, ground := Go.Ground.phase }, { on := 1, ground := Go.Ground.phase }, { on := 2, ground := Go.Ground.phase }, { on := 3, ground := Go.Ground.phase }, { on := 4, ground := Go.Ground.phase }, { on := 5, ground := Go.Ground.phase }, { on := 6, ground := Go.Ground.phase }, { on := 7, ground := Go.Ground.phase }, { on := 8, ground := Go.Ground.phase }, { on := 9, ground := Go.Ground.phase }, { on := 10, ground := Go.Ground.phase }, { on := 11, ground := Go.Ground.phase }, { on := 12, ground := Go.Ground.phase }, { on := 13, ground := Go.Ground.phase }, { on := 14, ground := Go.Ground.phase }, { on := 15, ground := Go.Ground.phase }, { on := 16, ground := Go.Ground.phase }], guard := none }) rfl (fun K hK => ?_) AllReadyH.nil
  go_simp
  obtain ⟨wE, hwE⟩ : ∃ wE, w8.setCell ⟨g, i * 3 + 1, none⟩ (.slice A8 (f2.b.length + m) c8) = wE := ⟨_, rfl⟩
  rw [hwE]
  have c1E : wE.cell? ⟨r, 1, none⟩ = some (.slice (some ⟨g, 0, none⟩) ny Y.c) := by rw [← hwE]; exact (World.cell?_setCell_other _ _ _ _ (by simp [hgr])).trans c18
  refine hK.out _ _ (c1E) (fun hHeld => ?_)
  clear hK K
  try simp only [Act.put, List.setIfInBounds_toArray, List.set_cons_zero, List.set_cons_succ]
  refine wpAnyH_done (by kernel_rfl) ?_ _
  rotate_left 1
  refine AllReadyH.cons (o := { dst := some 85, op := Go.Op.load 23 (Go.Operand.tmp 84), type := 23, pos := "disk.go:82", after := #[{ on := 12, ground := Go.Ground.data }], guard := none }) rfl (fun K hK => ?_) AllReadyH.nil
  go_simp
  refine hK.out _ _ (c13) (fun hHeld => ?_)
  clear hK K
  try simp only [Act.put, List.setIfInBounds_toArray, List.set_cons_zero, List.set_cons_succ]
  refine wpAnyH_ready (rs := [5]) (by kernel_rfl) (by simp) ?_
  refine AllReadyH.cons (o := { dst := some 77, op := Go.Op.buildSlice 23 0 #[], type := 23, pos := "disk.go:82", after := #[], guard := none }) rfl (fun K hK => ?_) AllReadyH.nil
  go_simp
  obtain ⟨wA, hwA⟩ : ∃ wA, w3.alloc (.cells #[] 5) = wA := ⟨_, rfl⟩
  rw [hwA]
  have bA : Below w3.heap.size w3 wA := by rw [← hwA]; exact below_refl_alloc _ _
  have c1A : wA.cell? ⟨r, 1, none⟩ = some (.slice (some ⟨g, 0, none⟩) ny Y.c) := (bA.cell (p := ⟨r, 1, none⟩) hrl).trans c13
  have k1A : wA.cell? ⟨g, i * 3 + 1, none⟩ = some (.slice f2.A f2.b.length f2.c) := (bA.cell (p := ⟨g, i * 3 + 1, none⟩) hgl).trans k13
  refine hK.out _ _ (c1A) (fun hHeld => ?_)
  clear hK K
  try simp only [Act.put, List.setIfInBounds_toArray, List.set_cons_zero, List.set_cons_succ]
  refine wpAnyH_ready (rs := [14]) (by kernel_rfl) (by simp) ?_
  refine AllReadyH.cons (o := { dst := some 86, op := Go.Op.call { callee := Go.Callee.builtin Go.Builtin.append, args := #[Go.Operand.tmp 77, Go.Operand.tmp 85], argTypes := #[23, 23] }, type := 23, pos := "disk.go:82", after := #[{ on := 5, ground := Go.Ground.data }, { on := 13, ground := Go.Ground.data }], guard := none }) rfl (fun K hK => ?_) AllReadyH.nil
  rw [if_pos (by rfl)]
  refine wpB_append_op (.tmp 77) (.tmp 85) rfl w3.heap.size _ 0 [] rfl (by rw [← hwA]; exact own_empty w3 _ _) w3.heap.size f2.A f2.b.length f2.c f2.b rfl (hbs3.below bA) f2.b.length f2.b (by omega) rfl (by omega) bA.size ?_
  intro A7 c7 w7 o7 b7 hc7 hm7
  have b37 : Below w3.heap.size w3 w7 := bA.trans b7
  have c17 : w7.cell? ⟨r, 1, none⟩ = some (.slice (some ⟨g, 0, none⟩) ny Y.c) := (b37.cell (p := ⟨r, 1, none⟩) hrl).trans c13
  refine hK.out _ _ (c17) (fun hHeld => ?_)
  clear hK K
  try simp only [Act.put, List.setIfInBounds_toArray, List.set_cons_zero, List.set_cons_succ]
  refine wpAnyH_ready (rs := [16]) (by kernel_rfl) (by simp) ?_
  refine AllReadyH.cons (o := { dst := some 88, op := Go.Op.call { callee := Go.Callee.builtin Go.Builtin.append, args := #[Go.Operand.tmp 86, Go.Operand.tmp 87], argTypes := #[23, 23] }, type := 23, pos := "disk.go:82", after := #[{ on := 14, ground := Go.Ground.data }, { on := 15, ground := Go.Ground.data }, { on := 14, ground := Go.Ground.chain }], guard := none }) rfl (fun K hK => ?_) AllReadyH.nil
  rw [if_pos (by rfl)]
  refine wpB_append_op (.tmp 86) (.tmp 87) rfl w3.heap.size _ f2.b.length f2.b rfl o7 base A m c nb rfl (HNB3.out.below (b37.mono hd3.base_le)) (f2.b.length + m) (f2.b ++ nb) rfl rfl (by omega) b37.size ?_
  intro A8 c8 w8 o8 b8 hc8 hm8
  have b38 : Below w3.heap.size w3 w8 := b37.trans b8
  have c18 : w8.cell? ⟨r, 1, none⟩ = some (.slice (some ⟨g, 0, none⟩) ny Y.c) := (b38.cell (p := ⟨r, 1, none⟩) hrl).trans c13
  have k18 : w8.cell? ⟨g, i * 3 + 1, none⟩ = some (.slice f2.A f2.b.length f2.c) := (b38.cell (p := ⟨g, i * 3 + 1, none⟩) hgl).trans k13
  have fz8 : w8.frozen? ⟨g, i * 3 + 1, none⟩ = false := by
    obtain ⟨cs, hb⟩ := (hd3.below b38).row_blk HG.out
    exact hb.free _
  refine hK.out _ _ (c18) (fun hHeld => ?_)
  clear hK K
  try simp only [Act.put, List.setIfInBounds_toArray, List.set_cons_zero, List.set_cons_succ]
  refine wpAnyH_take (i := 17) (oi := { dst := some 89, op := Go.Op.indexAddr 74 (Go.Operand.tmp 75) (Go.Operand.tmp 76), type := 0, pos := "disk.go:82", after := #[{ on := 3, ground := Go.Ground.data }, { on := 4, ground := Go.Ground.data }, { on := 0, ground := Go.Ground.phase }, { on := 1, ground := Go.Ground.phase }, { on := 2, ground := Go.Ground.phase }, { on := 3, ground := Go.Ground.phase }, { on := 4, ground := Go.Ground.phase }, { on := 5, ground := Go.Ground.phase }, { on := 6, ground := Go.Ground.phase }, { on := 7, ground := Go.Ground.phase }, { on := 8, ground := Go.Ground.phase }, { on := 9, ground := Go.Ground.phase }, { on := 10, ground := Go.Ground.phase }, { on := 11, ground := Go.Ground.phase }, { on := 12, ground := Go.Ground.phase }, { on := 13, ground := Go.Ground.phase }, { on := 14, ground := Go.Ground.phase }, { on := 15, ground := Go.Ground.phase }, { on := 16, ground := Go.Ground.phase }], guard := none }) (v := ?_) rfl (by kernel_rfl) (by kernel_rfl) (by kernel_rfl) (fun _ _ _ h => h) (Or.inl ⟨by rfl, ?_⟩) (by assumption) ?_
  rotate_left
  · (intro w hSw; (try dsimp only at hSw); go_simp; try with_reducible rfl)
  try simp only [Act.put, List.setIfInBounds_toArray, List.set_cons_zero, List.set_cons_succ]
  refine wpAnyH_take (i := 18) (oi := { dst := some 90, op := Go.Op.fieldAddr 78 (Go.Operand.tmp 89) 1, type := 0, pos := "disk.go:82", after := #[{ on := 17, ground := Go.Ground.data }, { on := 0, ground := Go.Ground.phase }, { on := 1, ground := Go.Ground.phase }, { on := 2, ground := Go.Ground.phase }, { on := 3, ground := Go.Ground.phase }, { on := 4, ground := Go.Ground.phase }, { on := 5, ground := Go.Ground.phase }, { on := 6, ground := Go.Ground.phase }, { on := 7, ground := Go.Ground.phase }, { on := 8, ground := Go.Ground.phase }, { on := 9, ground := Go.Ground.phase }, { on := 10, ground := Go.Ground.phase }, { on := 11, ground := Go.Ground.phase }, { on := 12, ground := Go.Ground.phase }, { on := 13, ground := Go.Ground.phase }, { on := 14, ground := Go.Ground.phase }, { on := 15, ground := Go.Ground.phase }, { on := 16, ground := Go.Ground.phase }], guard := none }) (v := ?_) rfl (by kernel_rfl) (by kernel_rfl) (by kernel_rfl) (fun _ _ _ h => h) (Or.inl ⟨by rfl, ?_⟩) (by assumption) ?_
  rotate_left
  · (intro w hSw; (try dsimp only at hSw); go_simp; try with_reducible rfl)
  try simp only [Act.put, List.setIfInBounds_toArray, List.set_cons_zero, List.set_cons_succ]
  refine wpAnyH_ready (rs := [19]) (by kernel_rfl) (by simp) ?_
  refine AllReadyH.cons (o := { dst := none, op := Go.Op.store 23 (Go.Operand.tmp 90) (Go.Operand.tmp 88), type := 0, pos := "disk.go:82", after := #[{ on := 18, ground := Go.Ground.data }, { on := 16, ground := Go.Ground.data }, { on := 16, ground := Go.Ground.chain }, { on := 0, ground := Go.Ground.phase }, { on := 1, ground := Go.Ground.phase }, { on := 2, ground := Go.Ground.phase }, { on := 3, ground := Go.Ground.phase }, { on := 4, ground := Go.Ground.phase }, { on := 5, ground := Go.Ground.phase }, { on := 6, ground := Go.Ground.phase }, { on := 7, ground := Go.Ground.phase }, { on := 8, ground := Go.Ground.phase }, { on := 9, ground := Go.Ground.phase }, { on := 10, ground := Go.Ground.phase }, { on := 11, ground := Go.Ground.phase }, { on := 12, ground := Go.Ground.phase }, { on := 13, ground := Go.Ground.phase }, { on := 14, ground := Go.Ground.phase }, { on := 15, ground := Go.Ground.phase }, { on := 16, ground := Go.Ground.phase }], guard := none }) rfl (fun K hK => ?_) AllReadyH.nil
  go_simp
  obtain ⟨wE, hwE⟩ : ∃ wE, w8.setCell ⟨g, i * 3 + 1, none⟩ (.slice A8 (f2.b.length + m) c8) = wE := ⟨_, rfl⟩
  rw [hwE]
  have c1E : wE.cell? ⟨r, 1, none⟩ = some (.slice (some ⟨g, 0, none⟩) ny Y.c) := by rw [← hwE]; exact (World.cell?_setCell_other _ _ _ _ (by simp [hgr])).trans c18
  refine hK.out _ _ (c1E) (fun hHeld => ?_)
  clear hK K
  try simp only [Act.put, List.setIfInBounds_toArray, List.set_cons_zero, List.set_cons_succ]
  refine wpAnyH_done (by kernel_rfl) ?_ _
  all_goals (
    clear hHeld
    have hrowE : wE.ownsRow base 78 3 Y.v Y.L.length ((Y.L.set i (appF f2 A8 c8 nb)).flatMap rcells) := by
      rw [← hwE]
      exact row_store (hd3.below b38).row HG.out HF.out (j := 1) (by omega) (by simp [rcells, RFE.v, appF, hml.out])
    have hlen8 : (f2.b ++ nb).length = f2.b.length + m := by rw [List.length_append, hml.out]
    have ht3E : Turn [g] w3 wE := by
      rw [← hwE]
      exact (Turn.of_below b38).trans (Turn.set (B := [g]) (.inl (by simp))) (fun q hq => .inl hq)
    have e9 : (appF f2 A8 c8 nb).v = .slice A8 (f2.b.length + m) c8 := by unfold appF RFE.v; simp only [hlen8]
    have hne8 : ∀ q, (Value.slice A8 (f2.b.length + m) c8).ownBlock = some q → w3.heap.size ≤ q ∧ q ≠ g := fun q hq => ⟨(o8.lt q hq).1, fun e => by have := (o8.lt q hq).1; omega⟩
    have hr8 : Row w8 (.slice A8 (f2.b.length + m) c8) (f2.b ++ nb) := row_of_own o8
    have hrE : Row wE (appF f2 A8 c8 nb).v (appF f2 A8 c8 nb).b := by
      rw [e9]
      refine hr8.keep fun q hq => ?_
      rw [← hwE]
      exact Below.heap_setCell _ _ _ _ (hne8 q hq).2
    have hfw : RFW wE (appF f2 A8 c8 nb) := ⟨hrE, by unfold appF; simp only [hlen8]; exact Nat.le_trans HFL.out.2.1 (Nat.le_add_right _ _), HFL.out.2.2⟩
    have hbE : ∀ q, (appF f2 A8 c8 nb).v.ownBlock = some q → w3.heap.size ≤ q := fun q hq => by rw [e9] at hq; exact (hne8 q hq).1
    have hX1 := hd3.set_row (f' := appF f2 A8 c8 nb) HG.out HF.out ht3E hrowE hfw (fun q hq => Nat.le_trans hd3.base_le (hbE q hq)) (by unfold appF; simp only [hlen8]; have := HUS.out; have := hml.out; omega)
    have hs23 : w3.heap.size = w2.heap.size := by rw [← hw3]; rfl
    have ht2E : Turn (Y.bl r) w2 wE := by
      have h9 : Turn (Y.bl r) w2 w3 := by rw [← hw3]; exact (Turn.refl _ w2).drewN 1
      exact h9.trans ht3E (fun q hq => .inl (by simp at hq; subst hq; exact rbl_v HG.out))
    obtain ⟨W5, hW5⟩ : ∃ W5, wE = W5 := ⟨_, rfl⟩
    have HX : Hid (RW W5 base r { Y with L := Y.L.set i (appF f2 A8 c8 nb) } ∧ Turn (X.bl r) w W5 ∧ ∀ q ∈ ({ Y with L := Y.L.set i (appF f2 A8 c8 nb) } : RDS).bl r, q ∈ X.bl r ∨ w.heap.size ≤ q) := by
      rw [← hW5]
      refine ⟨hX1, HTY.out.1.trans ht2E HTY.out.2, fun q hq => ?_⟩
      rcases bl_set HF.out q hq with h1 | h1
      · exact HTY.out.2 q h1
      · exact .inr (by have := hbE q h1; have := HTY.out.1.size; omega)
    clear hrowE hlen8 ht3E e9 hne8 hr8 hrE hfw hbE hX1 hs23 ht2E c1E c18 c17 k18 fz8 o7 o8 b38 b37 b8 b7 bA c1A k1A hwA hbs3 hd3 c13 k13 hwE hw3
    rw [hW5]
    go_wp2_with fail
    have hbn := rdid_any base r _ W5 HX.out.1
    have HBN := Lib.hid hbn
    clear hbn
    refine (unhide3 HBN).mono ?_
    rintro en w5 ⟨rfl, d5, t5⟩
    go_wp2_with fail
    go_ret
    refine ⟨0, _, rfl, .inr (.inr ⟨H0.out, HFT.out, rfl, .inl ⟨HE.out, i, f2, HI.out, by rw [← hY]; exact HF.out, A8, c8, by rw [hY]⟩⟩), d5, ?_, ?_⟩
    · exact HX.out.2.1.trans t5 (fun q hq => HX.out.2.2 q hq)
    · intro q hq
      rw [didX_bl] at hq
      exact HX.out.2.2 q hq)
theorem insX_len (X : RDS) (s : List UInt8) {i : Nat} (hi : i ≤ X.L.length) : (X.L.take i ++ newF s :: X.L.drop i).length = i + 1 + (X.L.length - i) := by
  simp; omega
theorem insX_used (X : RDS) (s : List UInt8) (i : Nat) : ((X.L.take i ++ newF s :: X.L.drop i).map fun f => f.b.length).sum = X.used := by
  have h : X.used = ((X.L.take i ++ X.L.drop i).map fun f => f.b.length).sum := by unfold RDS.used; rw [List.take_append_drop]
  rw [h]; simp only [List.map_append, List.sum_append, List.map_cons, List.sum_cons, newF, List.length_nil]; omega
theorem insX_get (X : RDS) (s : List UInt8) {i : Nat} (hi : i ≤ X.L.length) : (X.L.take i ++ newF s :: X.L.drop i)[i]? = some (newF s) := by
  rw [List.getElem?_append_right (by rw [List.length_take]; omega)]
  simp [Nat.min_eq_left hi]
set_option maxRecDepth 100000 in
set_option maxHeartbeats 3200000 in
theorem rapp_new (base r : Nat) (X : RDS) (w : World) (h : RW w base r X) (s : List UInt8) (hs : s.length ≤ 140737488351232) (A : Option Addr) (m c : Nat) (nb : List UInt8) (hr : Bs w base A m nb) (hm : m ≤ 1073741824) (h0 : rmayE X.left [s] = 0) (he : spotB s X.L = false) (hfit : X.used + nb.length ≤ X.room) (hfw9 : X.L.length < 4096) (hs64 : s.length ≤ 64) :
    Calls Try.prog 36 #[.pointer (some ⟨r, 0, none⟩), .string (str s), .slice A m c] w (RetX base r X (RAppR X s nb) w) := by
  generalize hW : w.alloc (.cells #[.string (str s)] 9) = W
  have hb0 : Below w.heap.size w W := by rw [← hW]; exact (Below.refl _ _).alloc (Nat.le_refl _) _
  have hW1 : RW W base r X := h.below hb0
  have hrd : Rd W W.heap.size 1 (some ⟨w.heap.size, 0, none⟩) 1 ([s].map sv) := by rw [← hW]; simpa [sv] using Rd.lit_new w ([s].map sv) 9
  have hmay := rmay_any base r X W hW1 (some ⟨w.heap.size, 0, none⟩) 1 1 [s] hrd (by omega) (by intro x hx; simp at hx; subst hx; exact hs)
  rw [h0] at hmay
  have HMAY := Lib.hid hmay
  have H1 := Lib.hid hW1
  have HB0 := Lib.hid hb0
  have c0W : W.cell? ⟨r, 0, none⟩ = some (.int .i64 (X.room : Int)) := by have := hW1.cell; unfold rdcells at this; exact this.cell 0
  have c1W : W.cell? ⟨r, 1, none⟩ = some (.slice X.A X.L.length X.c) := by have := hW1.cell; unfold rdcells RDS.v at this; exact this.cell 1
  have hml : Hid (nb.length = m) := hr.len
  have hro := hW1.room
  have hfew := hW1.few
  have hcap := hW1.cap
  have HRB := Lib.hid (hr.below (hb0.mono h.base_le))
  have hsp := rspot_any base r X W hW1 s
  rw [he] at hsp
  obtain ⟨i, hi⟩ : ∃ i, spotI s X.L = i := ⟨_, rfl⟩
  have hile : i ≤ X.L.length := by rw [← hi]; exact spot_le _ _
  rw [hi] at hsp
  have HSP := Lib.hid hsp
  have HI := Lib.hid hi
  have H0 := Lib.hid h0
  have HE := Lib.hid he
  have HFT := Lib.hid hfit
  have HFW := Lib.hid (And.intro hfw9 hile)
  clear h hW1 hmay hb0 h0 hrd he hsp hi hr hfit hfw9
  go_enter Try.func36, Try.ntmps36
  go_wp2_with fail
  refine (unhide3 HMAY).mono ?_
  rintro en w1 ⟨rfl, rfl⟩
  go_wp2_with fail
  refine (unhide3 HSP).mono ?_
  rintro en w1 ⟨rfl, nq, hw1⟩
  have hd1 : RW w1 base r X := by rw [hw1]; exact H1.out.keep (fun _ _ => rfl) (Nat.le_refl _)
  have ht1 : Turn (X.bl r) w w1 := by rw [hw1]; exact (Turn.of_below HB0.out).drewN nq
  have c01 : w1.cell? ⟨r, 0, none⟩ = some (.int .i64 (X.room : Int)) := by rw [hw1]; exact c0W
  have c11 : w1.cell? ⟨r, 1, none⟩ = some (.slice X.A X.L.length X.c) := by rw [hw1]; exact c1W
  have HRB1 : Hid (Bs w1 base A m nb) := by rw [hw1]; exact HRB.out
  have HT1 := Lib.hid ht1
  have HD1 := Lib.hid hd1
  obtain ⟨n, hn⟩ : ∃ n, n = X.L.length := ⟨_, rfl⟩
  rw [← hn] at c11 hile hfew hcap
  have HN := Lib.hid hn
  have hun : undef = Value.tuple #[] := rfl
  clear hw1 ht1 hd1 c0W c1W HMAY hn HRB
  go_wp2_with fail
  have hwrap : IntKind.i64.wrap ((X.used : Int) + (m : Int)) = (X.used : Int) + (m : Int) := IntWalk.i64_in _ ⟨by omega, by omega⟩
  have q5 : decide ((X.used : Int) + (m : Int) > (X.room : Int)) = false := decide_eq_false (by have := HFT.out; have := hml.out; omega)
  have q6 : decide ((X.room : Int) < (X.used : Int) + (m : Int)) = false := decide_eq_false (by have := HFT.out; have := hml.out; omega)
  have q7 : decide (X.room < X.used + m) = false := decide_eq_false (by have := HFT.out; have := hml.out; omega)
  have q8 : decide ((4096 : Int) ≤ (n : Int)) = false := decide_eq_false (by have := HFW.out.1; have := HN.out; omega)
  have q9 : decide (4096 ≤ n) = false := decide_eq_false (by have := HFW.out.1; have := HN.out; omega)
  refine wp_region_held_drew (S := fun w' => w'.cell? ⟨r, 0, none⟩ = some (.int .i64 (X.room : Int)) ∧ w'.cell? ⟨r, 1, none⟩ = some (.slice X.A n X.c)) (by kernel_rfl) (⟨c01, c11⟩) (fun hHeld => ?_)
  obtain ⟨w2, hw2⟩ : ∃ w2, w1.drew = w2 := ⟨_, rfl⟩
  rw [hw2] at hHeld ⊢
  have hd2 : RW w2 base r X := by rw [← hw2]; exact HD1.out.keep (fun _ _ => rfl) (Nat.le_refl _)
  refine wpAnyH_take (i := 0) (oi := { dst := some 24, op := Go.Op.move (Go.Operand.tmp 0), type := 45, pos := "disk.go:74", after := #[], guard := none }) (v := ?_) rfl (by kernel_rfl) (by kernel_rfl) (by kernel_rfl) (fun _ _ _ h => h) (Or.inl ⟨by rfl, ?_⟩) (by assumption) ?_
  rotate_left
  · (intro w hSw; (try dsimp only at hSw); go_simp; try with_reducible rfl)
  try simp only [Act.put, List.setIfInBounds_toArray, List.set_cons_zero, List.set_cons_succ]
  refine wpAnyH_take (i := 2) (oi := { dst := some 26, op := Go.Op.move (Go.Operand.tmp 2), type := 23, pos := "disk.go:74", after := #[], guard := none }) (v := ?_) rfl (by kernel_rfl) (by kernel_rfl) (by kernel_rfl) (fun _ _ _ h => h) (Or.inl ⟨by rfl, ?_⟩) (by assumption) ?_
  rotate_left
  · (intro w hSw; (try dsimp only at hSw); go_simp; try with_reducible rfl)
  try simp only [Act.put, List.setIfInBounds_toArray, List.set_cons_zero, List.set_cons_succ]
  refine wpAnyH_take (i := 3) (oi := { dst := some 27, op := Go.Op.call { callee := Go.Callee.builtin Go.Builtin.len, args := #[Go.Operand.tmp 26], argTypes := #[23] }, type := 3, pos := "disk.go:74", after := #[{ on := 2, ground := Go.Ground.data }], guard := none }) (v := ?_) rfl (by kernel_rfl) (by kernel_rfl) (by kernel_rfl) (fun _ _ _ h => h) (Or.inl ⟨by rfl, ?_⟩) (by assumption) ?_
  rotate_left
  · (intro w hSw; (try dsimp only at hSw); go_simp; try with_reducible rfl)
  try simp only [Act.put, List.setIfInBounds_toArray, List.set_cons_zero, List.set_cons_succ]
  refine wpAnyH_take (i := 5) (oi := { dst := some 29, op := Go.Op.move (Go.Operand.tmp 0), type := 45, pos := "disk.go:74", after := #[], guard := none }) (v := ?_) rfl (by kernel_rfl) (by kernel_rfl) (by kernel_rfl) (fun _ _ _ h => h) (Or.inl ⟨by rfl, ?_⟩) (by assumption) ?_
  rotate_left
  · (intro w hSw; (try dsimp only at hSw); go_simp; try with_reducible rfl)
  try simp only [Act.put, List.setIfInBounds_toArray, List.set_cons_zero, List.set_cons_succ]
  refine wpAnyH_take (i := 6) (oi := { dst := some 30, op := Go.Op.nilCheck (Go.Operand.tmp 29), type := 0, pos := "disk.go:74", after := #[{ on := 5, ground := Go.Ground.data }], guard := none }) (v := ?_) rfl (by kernel_rfl) (by kernel_rfl) (by kernel_rfl) (fun _ _ _ h => h) (Or.inl ⟨by rfl, ?_⟩) (by assumption) ?_
  rotate_left
  · (intro w hSw; (try dsimp only at hSw); go_simp; try with_reducible rfl)
  try simp only [Act.put, List.setIfInBounds_toArray, List.set_cons_zero, List.set_cons_succ]
  refine wpAnyH_take (i := 7) (oi := { dst := some 31, op := Go.Op.fieldAddr 76 (Go.Operand.tmp 30) 0, type := 0, pos := "disk.go:74", after := #[{ on := 6, ground := Go.Ground.data }], guard := none }) (v := ?_) rfl (by kernel_rfl) (by kernel_rfl) (by kernel_rfl) (fun _ _ _ h => h) (Or.inl ⟨by rfl, ?_⟩) (by assumption) ?_
  rotate_left
  · (intro w hSw; (try dsimp only at hSw); go_simp; try with_reducible rfl)
  try simp only [Act.put, List.setIfInBounds_toArray, List.set_cons_zero, List.set_cons_succ]
  refine wpAnyH_take (i := 8) (oi := { dst := some 32, op := Go.Op.load 3 (Go.Operand.tmp 31), type := 3, pos := "disk.go:74", after := #[{ on := 7, ground := Go.Ground.data }], guard := none }) (v := ?_) rfl (by kernel_rfl) (by kernel_rfl) (by kernel_rfl) (fun _ _ _ h => h) (Or.inl ⟨by rfl, ?_⟩) (by assumption) ?_
  rotate_left
  · (intro w hSw; (try dsimp only at hSw); go_simp; try with_reducible rfl)
  try simp only [Act.put, List.setIfInBounds_toArray, List.set_cons_zero, List.set_cons_succ]
  refine wpAnyH_ready (rs := [1]) (by kernel_rfl) (by simp) ?_
  refine AllReadyH.cons (o := { dst := some 25, op := Go.Op.call { callee := Go.Callee.value (Go.Operand.func 47), args := #[Go.Operand.tmp 24], argTypes := #[45] }, type := 3, pos := "disk.go:74", after := #[{ on := 0, ground := Go.Ground.data }], guard := none }) rfl (fun K hK => ?_) AllReadyH.nil
  go_simp
  refine (rused_any base r X w2 hd2).mono ?_
  rintro en w3 ⟨rfl, rfl⟩
  have hst := hHeld
  go_wp2_with fail
  refine hK.out _ _ (hst) (fun hHeld => ?_)
  clear hK K
  try simp only [Act.put, List.setIfInBounds_toArray, List.set_cons_zero, List.set_cons_succ]
  refine wpAnyH_take (i := 4) (oi := { dst := some 28, op := Go.Op.binOp Go.BinOp.add 3 (Go.Operand.tmp 25) (Go.Operand.tmp 27) 3, type := 3, pos := "disk.go:74", after := #[{ on := 1, ground := Go.Ground.data }, { on := 3, ground := Go.Ground.data }], guard := none }) (v := ?_) rfl (by kernel_rfl) (by kernel_rfl) (by kernel_rfl) (fun _ _ _ h => h) (Or.inl ⟨by rfl, ?_⟩) (by assumption) ?_
  rotate_left
  · (intro w hSw; (try dsimp only at hSw); go_simp; try with_reducible rfl)
  try simp only [Act.put, List.setIfInBounds_toArray, List.set_cons_zero, List.set_cons_succ]
  refine wpAnyH_take (i := 9) (oi := { dst := some 33, op := Go.Op.binOp Go.BinOp.gtr 3 (Go.Operand.tmp 28) (Go.Operand.tmp 32) 3, type := 4, pos := "disk.go:74", after := #[{ on := 4, ground := Go.Ground.data }, { on := 8, ground := Go.Ground.data }], guard := none }) (v := ?_) rfl (by kernel_rfl) (by kernel_rfl) (by kernel_rfl) (fun _ _ _ h => h) (Or.inl ⟨by rfl, ?_⟩) (by assumption) ?_
  rotate_left
  · (intro w hSw; (try dsimp only at hSw); go_simp; try with_reducible rfl)
  try simp only [Act.put, List.setIfInBounds_toArray, List.set_cons_zero, List.set_cons_succ]
  refine wpAnyH_take (i := 10) (oi := { dst := some 34, op := Go.Op.move (Go.Operand.tmp 33), type := 4, pos := "disk.go:74", after := #[{ on := 9, ground := Go.Ground.data }, { on := 1, ground := Go.Ground.chain }], guard := none }) (v := ?_) rfl (by kernel_rfl) (by kernel_rfl) (by kernel_rfl) (fun _ _ _ h => h) (Or.inl ⟨by rfl, ?_⟩) (by assumption) ?_
  rotate_left
  · (intro w hSw; (try dsimp only at hSw); go_simp; try with_reducible rfl)
  try simp only [Act.put, List.setIfInBounds_toArray, List.set_cons_zero, List.set_cons_succ]
  refine wpAnyH_take (i := 11) (oi := { dst := some 35, op := Go.Op.move (Go.Operand.tmp 9), type := 4, pos := "disk.go:74", after := #[{ on := 10, ground := Go.Ground.guard }], guard := some (10, false) }) (v := ?_) rfl (by kernel_rfl) (by kernel_rfl) (by kernel_rfl) (fun _ _ _ h => h) (Or.inl ⟨by rfl, ?_⟩) (by assumption) ?_
  rotate_left
  · (intro w hSw; (try dsimp only at hSw); go_simp; try with_reducible rfl)
  try simp only [Act.put, List.setIfInBounds_toArray, List.set_cons_zero, List.set_cons_succ]
  refine wpAnyH_take (i := 12) (oi := { dst := some 36, op := Go.Op.unOp Go.UnOp.not 4 (Go.Operand.tmp 35), type := 4, pos := "disk.go:74", after := #[{ on := 11, ground := Go.Ground.data }, { on := 10, ground := Go.Ground.guard }], guard := some (10, false) }) (v := ?_) rfl (by kernel_rfl) (by kernel_rfl) (by kernel_rfl) (fun _ _ _ h => h) (Or.inl ⟨by rfl, ?_⟩) (by assumption) ?_
  rotate_left
  · (intro w hSw; (try dsimp only at hSw); go_simp; try with_reducible rfl)
  try simp only [Act.put, List.setIfInBounds_toArray, List.set_cons_zero, List.set_cons_succ]
  refine wpAnyH_take (i := 13) (oi := { dst := some 37, op := Go.Op.move (Go.Operand.tmp 36), type := 4, pos := "disk.go:74", after := #[{ on := 12, ground := Go.Ground.data }, { on := 10, ground := Go.Ground.chain }, { on := 10, ground := Go.Ground.guard }], guard := some (10, false) }) (v := ?_) rfl (by kernel_rfl) (by kernel_rfl) (by kernel_rfl) (fun _ _ _ h => h) (Or.inl ⟨by rfl, ?_⟩) (by assumption) ?_
  rotate_left
  · (intro w hSw; (try dsimp only at hSw); go_simp; try with_reducible rfl)
  try simp only [Act.put, List.setIfInBounds_toArray, List.set_cons_zero, List.set_cons_succ]
  refine wpAnyH_take (i := 14) (oi := { dst := some 38, op := Go.Op.move (Go.Operand.tmp 0), type := 45, pos := "disk.go:74", after := #[{ on := 13, ground := Go.Ground.guard }], guard := some (13, true) }) (v := ?_) rfl (by kernel_rfl) (by kernel_rfl) (by kernel_rfl) (fun _ _ _ h => h) (Or.inl ⟨by rfl, ?_⟩) (by assumption) ?_
  rotate_left
  · (intro w hSw; (try dsimp only at hSw); go_simp; try with_reducible rfl)
  try simp only [Act.put, List.setIfInBounds_toArray, List.set_cons_zero, List.set_cons_succ]
  refine wpAnyH_take (i := 15) (oi := { dst := some 39, op := Go.Op.nilCheck (Go.Operand.tmp 38), type := 0, pos := "disk.go:74", after := #[{ on := 14, ground := Go.Ground.data }, { on := 13, ground := Go.Ground.guard }], guard := some (13, true) }) (v := ?_) rfl (by kernel_rfl) (by kernel_rfl) (by kernel_rfl) (fun _ _ _ h => h) (Or.inl ⟨by rfl, ?_⟩) (by assumption) ?_
  rotate_left
  · (intro w hSw; (try dsimp only at hSw); go_simp; try with_reducible rfl)
  try simp only [Act.put, List.setIfInBounds_toArray, List.set_cons_zero, List.set_cons_succ]
  refine wpAnyH_take (i := 16) (oi := { dst := some 40, op := Go.Op.fieldAddr 76 (Go.Operand.tmp 39) 1, type := 0, pos := "disk.go:74", after := #[{ on := 15, ground := Go.Ground.data }, { on := 13, ground := Go.Ground.guard }], guard := some (13, true) }) (v := ?_) rfl (by kernel_rfl) (by kernel_rfl) (by kernel_rfl) (fun _ _ _ h => h) (Or.inl ⟨by rfl, ?_⟩) (by assumption) ?_
  rotate_left
  · (intro w hSw; (try dsimp only at hSw); go_simp; try with_reducible rfl)
  try simp only [Act.put, List.setIfInBounds_toArray, List.set_cons_zero, List.set_cons_succ]
  refine wpAnyH_take (i := 17) (oi := { dst := some 41, op := Go.Op.load 74 (Go.Operand.tmp 40), type := 74, pos := "disk.go:74", after := #[{ on := 16, ground := Go.Ground.data }, { on := 13, ground := Go.Ground.guard }], guard := some (13, true) }) (v := ?_) rfl (by kernel_rfl) (by kernel_rfl) (by kernel_rfl) (fun _ _ _ h => h) (Or.inl ⟨by rfl, ?_⟩) (by assumption) ?_
  rotate_left
  · (intro w hSw; (try dsimp only at hSw); go_simp; try with_reducible rfl)
  try simp only [Act.put, List.setIfInBounds_toArray, List.set_cons_zero, List.set_cons_succ]
  refine wpAnyH_take (i := 18) (oi := { dst := some 42, op := Go.Op.call { callee := Go.Callee.builtin Go.Builtin.len, args := #[Go.Operand.tmp 41], argTypes := #[74] }, type := 3, pos := "disk.go:74", after := #[{ on := 17, ground := Go.Ground.data }, { on := 13, ground := Go.Ground.guard }], guard := some (13, true) }) (v := ?_) rfl (by kernel_rfl) (by kernel_rfl) (by kernel_rfl) (fun _ _ _ h => h) (Or.inl ⟨by rfl, ?_⟩) (by assumption) ?_
  rotate_left
  · (intro w hSw; (try dsimp only at hSw); go_simp; try with_reducible rfl)
  try simp only [Act.put, List.setIfInBounds_toArray, List.set_cons_zero, List.set_cons_succ]
  refine wpAnyH_take (i := 19) (oi := { dst := some 43, op := Go.Op.binOp Go.BinOp.geq 3 (Go.Operand.tmp 42) (Go.Operand.const (Go.Value.int Go.IntKind.i64 4096)) 3, type := 4, pos := "disk.go:74", after := #[{ on := 18, ground := Go.Ground.data }, { on := 13, ground := Go.Ground.guard }], guard := some (13, true) }) (v := ?_) rfl (by kernel_rfl) (by kernel_rfl) (by kernel_rfl) (fun _ _ _ h => h) (Or.inl ⟨by rfl, ?_⟩) (by assumption) ?_
  rotate_left
  · (intro w hSw; (try dsimp only at hSw); go_simp; try with_reducible rfl)
  try simp only [Act.put, List.setIfInBounds_toArray, List.set_cons_zero, List.set_cons_succ]
  refine wpAnyH_take (i := 20) (oi := { dst := some 44, op := Go.Op.pick (Go.Operand.tmp 37) (Go.Operand.tmp 43) (Go.Operand.const (Go.Value.bool false)), type := 4, pos := "disk.go:74", after := #[{ on := 13, ground := Go.Ground.data }, { on := 19, ground := Go.Ground.data }, { on := 10, ground := Go.Ground.guard }], guard := some (10, false) }) (v := ?_) rfl (by kernel_rfl) (by kernel_rfl) (by kernel_rfl) (fun _ _ _ h => h) (Or.inl ⟨by rfl, ?_⟩) (by assumption) ?_
  rotate_left
  · (intro w hSw; (try dsimp only at hSw); go_simp; try with_reducible rfl)
  try simp only [Act.put, List.setIfInBounds_toArray, List.set_cons_zero, List.set_cons_succ]
  refine wpAnyH_take (i := 21) (oi := { dst := some 45, op := Go.Op.pick (Go.Operand.tmp 34) (Go.Operand.const (Go.Value.bool true)) (Go.Operand.tmp 44), type := 4, pos := "disk.go:74", after := #[{ on := 10, ground := Go.Ground.data }, { on := 20, ground := Go.Ground.data }], guard := none }) (v := ?_) rfl (by kernel_rfl) (by kernel_rfl) (by kernel_rfl) (fun _ _ _ h => h) (Or.inl ⟨by rfl, ?_⟩) (by assumption) ?_
  rotate_left
  · (intro w hSw; (try dsimp only at hSw); go_simp; try with_reducible rfl)
  try simp only [Act.put, List.setIfInBounds_toArray, List.set_cons_zero, List.set_cons_succ]
  refine wpAnyH_done (by kernel_rfl) ?_ _
  clear hun
  have c12 : w2.cell? ⟨r, 1, none⟩ = some (.slice X.A n X.c) := by rw [← hw2]; exact c11
  have HT2 : Hid (Turn (X.bl r) w w2) := by show Turn _ _ _; rw [← hw2]; exact HT1.out.drewN 1
  have HNB2' : Hid (Bs w2 base A m nb) := by rw [← hw2]; exact HRB1.out
  have HD2 := Lib.hid hd2
  have hrl : r < w2.heap.size := (hd2.ge r (rbl_r r X)).2
  have hic : i ≤ X.c := by omega
  clear hd2 hw2 c01 c11 hHeld q5 q6 q7 q8 q9 hst hwrap
  go_wp2_with (first
    | (at_builtin
       refine wpListF_append rfl (.tmp 48) (.tmp 54) rfl w2.heap.size _ 0 [] rfl (own_empty w2 _ _) w2.heap.size X.A i X.c (X.L.take i) rfl ((HD2.out.rd_take HFW.out.2).alloc (Nat.le_refl _) _) i (X.L.take i) (by omega) rfl (by omega) (by simp) ?_
       intro A4 c4 w4 o4 b4 hc4 hm4
       have b24 : Below w2.heap.size w2 w4 := (below_refl_alloc w2 _).trans b4)
    | (at_builtin
       refine wpListF_append rfl (.tmp 56) (.tmp 59) rfl w2.heap.size _ i (X.L.take i) rfl (o4.alloc _) (w4.heap.size + 1) (some ⟨w4.heap.size, 0, none⟩) 1 1 [newF s] rfl (Rd.lit_file w4 (newF s) 78) (i + 1) (X.L.take i ++ [newF s]) rfl rfl (by omega) (by have := b24.size; simp; omega) ?_
       intro A5 c5 w5 o5 b5 hc5 hm5
       have b25 : Below w2.heap.size w2 w5 := (b24.trans ((Below.refl _ _).alloc b24.size _)).trans b5
       have c15 : w5.cell? ⟨r, 1, none⟩ = some (.slice X.A n X.c) := (b25.cell (p := ⟨r, 1, none⟩) hrl).trans c12)
    | (at_builtin
       refine wpListF_append rfl (.tmp 62) (.tmp 68) rfl w2.heap.size _ (i + 1) (X.L.take i ++ [newF s]) rfl o5 w5.heap.size (if X.c = i then X.A else X.A.map (·.add (i * 3))) (n - i) (X.c - i) (X.L.drop i) rfl (by have := (HD2.out.below b25).rd_cut HFW.out.2; rwa [← HN.out] at this) (i + 1 + (n - i)) (X.L.take i ++ newF s :: X.L.drop i) rfl (by simp) (by omega) b25.size ?_
       intro A6 c6 w6 o6 b6 hc6 hm6
       have b26 : Below w2.heap.size w2 w6 := b25.trans b6
       have c16 : w6.cell? ⟨r, 1, none⟩ = some (.slice X.A n X.c) := (b26.cell (p := ⟨r, 1, none⟩) hrl).trans c12
       have fz6 : w6.frozen? ⟨r, 1, none⟩ = false := (HD2.out.below b26).cell.free 1)
    | fail)
  all_goals (
    obtain ⟨wS, hwS⟩ : ∃ wS, w6.setCell ⟨r, 1, none⟩ (.slice A6 (i + 1 + (n - i)) c6) = wS := ⟨_, rfl⟩
    rw [hwS]
    have hlenY : (X.L.take i ++ newF s :: X.L.drop i).length = i + 1 + (n - i) := by rw [insX_len X s HFW.out.2, HN.out]
    have hts : Turn [r] w2 wS := by
      rw [← hwS]
      exact (Turn.of_below b26).trans (Turn.set (B := [r]) (.inl (by simp))) (fun q hq => .inl hq)
    have ho6 : ∀ q, (Value.slice A6 (i + 1 + (n - i)) c6).ownBlock = some q → w2.heap.size ≤ q := fun q hq => (o6.lt q hq).1
    have hrowS : wS.ownsRow base 78 3 (.slice A6 (X.L.take i ++ newF s :: X.L.drop i).length c6) (X.L.take i ++ newF s :: X.L.drop i).length ((X.L.take i ++ newF s :: X.L.drop i).flatMap rcells) := by
      rw [hlenY, ← hwS]
      exact own_block (own_more o6 HD2.out.base_le) fun q hq => Below.heap_setCell _ _ _ _ (fun e => by have := ho6 q hq; subst e; omega)
    have hcellS : Blk wS r (rdcells { X with A := A6, c := c6, L := X.L.take i ++ newF s :: X.L.drop i }) 76 := by
      have h1 := Blk.set (HD2.out.below b26).cell 1 (.slice A6 (i + 1 + (n - i)) c6)
      rw [hwS] at h1
      have h2 : rdcells { X with A := A6, c := c6, L := X.L.take i ++ newF s :: X.L.drop i } = (rdcells X).setIfInBounds 1 (.slice A6 (i + 1 + (n - i)) c6) := by
        unfold rdcells RDS.v; simp only [hlenY]; rfl
      rw [h2]; exact h1
    have hRY := HD2.out.relist hrowS (by rw [hlenY]; exact ho6) hcellS hts (fun f hf => by
      rcases List.mem_append.1 hf with h1 | h1
      · have h2 := List.mem_of_mem_take h1
        exact .inl ⟨f, h2, rfl, rfl, rfl, rfl, (HD2.out.file f h2).2.2⟩
      · rcases List.mem_cons.1 h1 with rfl | h2
        · exact .inr ⟨rfl, rfl, rfl, rfl, hs64⟩
        · have h3 := List.mem_of_mem_drop h2
          exact .inl ⟨f, h3, rfl, rfl, rfl, rfl, (HD2.out.file f h3).2.2⟩) (by rw [insX_used]; exact Nat.le_refl _) (by rw [hlenY]; have := HFW.out.1; have := HN.out; omega)
    have hnbS : Bs wS base A m nb := by
      have h1 : Below base w2 wS := hts.below (fun q hq => by simp at hq; subst hq; exact (HD2.out.ge q (rbl_r q X)).1) HD2.out.base_le
      exact HNB2'.out.below h1
    obtain ⟨Y, hY⟩ : ∃ Y, Y = ({ X with A := A6, c := c6, L := X.L.take i ++ newF s :: X.L.drop i } : RDS) := ⟨_, rfl⟩
    rw [← hY] at hRY
    have HDY := Lib.hid hRY.1
    have HTY : Hid (Turn (X.bl r) w wS ∧ ∀ q ∈ Y.bl r, q ∈ X.bl r ∨ w.heap.size ≤ q) := ⟨HT2.out.trans hts (fun q hq => .inl (by simp at hq; subst hq; exact rbl_r q X)), fun q hq => (hRY.2 q hq).imp id (fun h => Nat.le_trans HT2.out.size h)⟩
    have HNB2 := Lib.hid hnbS
    obtain ⟨f', hf'⟩ : ∃ f', f' = newF s := ⟨_, rfl⟩
    have HF : Hid (Y.L[i]? = some f') := by show _ = _; rw [hY, hf']; exact insX_get X s HFW.out.2
    have HUS : Hid (Y.used + nb.length ≤ Y.room) := by
      have h1 : Y.used = X.used := by rw [hY]; exact insX_used X s i
      have h2 : Y.room = X.room := by rw [hY]
      show _ ≤ _
      rw [h1, h2]; exact HFT.out
    have hlt : i < Y.L.length := (List.getElem?_eq_some_iff.1 HF.out).1
    have HYF := Lib.hid (And.intro hY hf')
    clear hY hf' hnbS hRY hcellS hrowS ho6 hts hlenY hwS o6 o5 o4 b26 b25 b24 b6 b5 b4 c16 fz6 c15 c12 hrl hic
    obtain ⟨g, f2, hA, hg, hf2, hmem, k0, k1, k2, hfr, hcy1, hcy2⟩ := HDY.out.at_ hlt
    obtain rfl : f2 = f' := by rw [HF.out] at hf2; injection hf2 with hf2; exact hf2.symm
    have hcc := HDY.out.cell
    unfold rdcells RDS.v at hcc
    have c12 : wS.cell? ⟨r, 1, none⟩ = some (.slice (some ⟨g, 0, none⟩) Y.L.length Y.c) := by have := hcc.cell 1; rw [hA] at this; exact this
    have hgr : g ≠ r := HDY.out.ne_rv hg
    have HG := Lib.hid hg
    have HM := Lib.hid hmem
    have HFL := Lib.hid (HDY.out.file f2 hmem)
    have hle : f2.b.length ≤ 1073741824 := by
      have h1 := HDY.out.room
      have h2 : f2.b.length ≤ Y.used := by
        have : ∀ L : List RFE, f2 ∈ L → f2.b.length ≤ (L.map fun f => f.b.length).sum := by
          intro L
          induction L with
          | nil => intro h; simp at h
          | cons x r ih =>
            intro h
            simp only [List.map_cons, List.sum_cons]
            rcases List.mem_cons.1 h with rfl | h3
            · omega
            · have := ih h3; omega
        exact this Y.L hmem
      omega
    obtain ⟨ny, hny⟩ : ∃ ny, ny = Y.L.length := ⟨_, rfl⟩
    rw [← hny] at c12 hlt hcy1
    have HNY := Lib.hid hny
    have hfewy := HDY.out.few
    rw [← hny] at hfewy
    clear hcc hA hg hf2 hmem hfr hny
    refine wp_region_held_drew (S := fun w' => w'.cell? ⟨r, 1, none⟩ = some (.slice (some ⟨g, 0, none⟩) ny Y.c)) (by kernel_rfl) (c12) (fun hHeld => ?_)
    obtain ⟨w3, hw3⟩ : ∃ w3, wS.drew = w3 := ⟨_, rfl⟩
    rw [hw3] at hHeld ⊢
    have hd3 : RW w3 base r Y := by rw [← hw3]; exact HDY.out.keep (fun _ _ => rfl) (Nat.le_refl _)
    have HNB3 : Hid (Bs w3 base A m nb) := by rw [← hw3]; exact HNB2.out
    have c13 : w3.cell? ⟨r, 1, none⟩ = some (.slice (some ⟨g, 0, none⟩) ny Y.c) := by rw [← hw3]; exact c12
    have k13 : w3.cell? ⟨g, i * 3 + 1, none⟩ = some (.slice f2.A f2.b.length f2.c) := by rw [← hw3]; exact k1
    have hrl : r < w3.heap.size := (hd3.ge r (rbl_r r Y)).2
    have hgl : g < w3.heap.size := (hd3.ge g (rbl_v HG.out)).2
    have hbs3 : Bs w3 w3.heap.size f2.A f2.b.length f2.b := (hd3.file f2 HM.out).1.bs
    clear c12 k0 k1 k2
    refine wpAnyH_take (i := 0) (oi := { dst := some 72, op := Go.Op.move (Go.Operand.tmp 0), type := 45, pos := "disk.go:82", after := #[], guard := none }) (v := ?_) rfl (by kernel_rfl) (by kernel_rfl) (by kernel_rfl) (fun _ _ _ h => h) (Or.inl ⟨by rfl, ?_⟩) (by assumption) ?_
    rotate_left
    · (intro w hSw; (try dsimp only at hSw); go_simp; try with_reducible rfl)
    try simp only [Act.put, List.setIfInBounds_toArray, List.set_cons_zero, List.set_cons_succ]
    refine wpAnyH_take (i := 1) (oi := { dst := some 73, op := Go.Op.nilCheck (Go.Operand.tmp 72), type := 0, pos := "disk.go:82", after := #[{ on := 0, ground := Go.Ground.data }], guard := none }) (v := ?_) rfl (by kernel_rfl) (by kernel_rfl) (by kernel_rfl) (fun _ _ _ h => h) (Or.inl ⟨by rfl, ?_⟩) (by assumption) ?_
    rotate_left
    · (intro w hSw; (try dsimp only at hSw); go_simp; try with_reducible rfl)
    try simp only [Act.put, List.setIfInBounds_toArray, List.set_cons_zero, List.set_cons_succ]
    refine wpAnyH_take (i := 2) (oi := { dst := some 74, op := Go.Op.fieldAddr 76 (Go.Operand.tmp 73) 1, type := 0, pos := "disk.go:82", after := #[{ on := 1, ground := Go.Ground.data }], guard := none }) (v := ?_) rfl (by kernel_rfl) (by kernel_rfl) (by kernel_rfl) (fun _ _ _ h => h) (Or.inl ⟨by rfl, ?_⟩) (by assumption) ?_
    rotate_left
    · (intro w hSw; (try dsimp only at hSw); go_simp; try with_reducible rfl)
    try simp only [Act.put, List.setIfInBounds_toArray, List.set_cons_zero, List.set_cons_succ]
    refine wpAnyH_take (i := 3) (oi := { dst := some 75, op := Go.Op.load 74 (Go.Operand.tmp 74), type := 74, pos := "disk.go:82", after := #[{ on := 2, ground := Go.Ground.data }], guard := none }) (v := ?_) rfl (by kernel_rfl) (by kernel_rfl) (by kernel_rfl) (fun _ _ _ h => h) (Or.inl ⟨by rfl, ?_⟩) (by assumption) ?_
    rotate_left
    · (intro w hSw; (try dsimp only at hSw); go_simp; try with_reducible rfl)
    try simp only [Act.put, List.setIfInBounds_toArray, List.set_cons_zero, List.set_cons_succ]
    refine wpAnyH_take (i := 4) (oi := { dst := some 76, op := Go.Op.move (Go.Operand.tmp 8), type := 3, pos := "disk.go:82", after := #[], guard := none }) (v := ?_) rfl (by kernel_rfl) (by kernel_rfl) (by kernel_rfl) (fun _ _ _ h => h) (Or.inl ⟨by rfl, ?_⟩) (by assumption) ?_
    rotate_left
    · (intro w hSw; (try dsimp only at hSw); go_simp; try with_reducible rfl)
    try simp only [Act.put, List.setIfInBounds_toArray, List.set_cons_zero, List.set_cons_succ]
    refine wpAnyH_take (i := 6) (oi := { dst := some 78, op := Go.Op.move (Go.Operand.tmp 0), type := 45, pos := "disk.go:82", after := #[], guard := none }) (v := ?_) rfl (by kernel_rfl) (by kernel_rfl) (by kernel_rfl) (fun _ _ _ h => h) (Or.inl ⟨by rfl, ?_⟩) (by assumption) ?_
    rotate_left
    · (intro w hSw; (try dsimp only at hSw); go_simp; try with_reducible rfl)
    try simp only [Act.put, List.setIfInBounds_toArray, List.set_cons_zero, List.set_cons_succ]
    refine wpAnyH_take (i := 7) (oi := { dst := some 79, op := Go.Op.nilCheck (Go.Operand.tmp 78), type := 0, pos := "disk.go:82", after := #[{ on := 6, ground := Go.Ground.data }], guard := none }) (v := ?_) rfl (by kernel_rfl) (by kernel_rfl) (by kernel_rfl) (fun _ _ _ h => h) (Or.inl ⟨by rfl, ?_⟩) (by assumption) ?_
    rotate_left
    · (intro w hSw; (try dsimp only at hSw); go_simp; try with_reducible rfl)
    try simp only [Act.put, List.setIfInBounds_toArray, List.set_cons_zero, List.set_cons_succ]
    refine wpAnyH_take (i := 8) (oi := { dst := some 80, op := Go.Op.fieldAddr 76 (Go.Operand.tmp 79) 1, type := 0, pos := "disk.go:82", after := #[{ on := 7, ground := Go.Ground.data }], guard := none }) (v := ?_) rfl (by kernel_rfl) (by kernel_rfl) (by kernel_rfl) (fun _ _ _ h => h) (Or.inl ⟨by rfl, ?_⟩) (by assumption) ?_
    rotate_left
    · (intro w hSw; (try dsimp only at hSw); go_simp; try with_reducible rfl)
    try simp only [Act.put, List.setIfInBounds_toArray, List.set_cons_zero, List.set_cons_succ]
    refine wpAnyH_take (i := 9) (oi := { dst := some 81, op := Go.Op.load 74 (Go.Operand.tmp 80), type := 74, pos := "disk.go:82", after := #[{ on := 8, ground := Go.Ground.data }], guard := none }) (v := ?_) rfl (by kernel_rfl) (by kernel_rfl) (by kernel_rfl) (fun _ _ _ h => h) (Or.inl ⟨by rfl, ?_⟩) (by assumption) ?_
    rotate_left
    · (intro w hSw; (try dsimp only at hSw); go_simp; try with_reducible rfl)
    try simp only [Act.put, List.setIfInBounds_toArray, List.set_cons_zero, List.set_cons_succ]
    refine wpAnyH_take (i := 10) (oi := { dst := some 82, op := Go.Op.move (Go.Operand.tmp 8), type := 3, pos := "disk.go:82", after := #[], guard := none }) (v := ?_) rfl (by kernel_rfl) (by kernel_rfl) (by kernel_rfl) (fun _ _ _ h => h) (Or.inl ⟨by rfl, ?_⟩) (by assumption) ?_
    rotate_left
    · (intro w hSw; (try dsimp only at hSw); go_simp; try with_reducible rfl)
    try simp only [Act.put, List.setIfInBounds_toArray, List.set_cons_zero, List.set_cons_succ]
    refine wpAnyH_take (i := 11) (oi := { dst := some 83, op := Go.Op.indexAddr 74 (Go.Operand.tmp 81) (Go.Operand.tmp 82), type := 0, pos := "disk.go:82", after := #[{ on := 9, ground := Go.Ground.data }, { on := 10, ground := Go.Ground.data }], guard := none }) (v := ?_) rfl (by kernel_rfl) (by kernel_rfl) (by kernel_rfl) (fun _ _ _ h => h) (Or.inl ⟨by rfl, ?_⟩) (by assumption) ?_
    rotate_left
    · (intro w hSw; (try dsimp only at hSw); go_simp; try with_reducible rfl)
    try simp only [Act.put, List.setIfInBounds_toArray, List.set_cons_zero, List.set_cons_succ]
    refine wpAnyH_take (i := 12) (oi := { dst := some 84, op := Go.Op.fieldAddr 78 (Go.Operand.tmp 83) 1, type := 0, pos := "disk.go:82", after := #[{ on := 11, ground := Go.Ground.data }], guard := none }) (v := ?_) rfl (by kernel_rfl) (by kernel_rfl) (by kernel_rfl) (fun _ _ _ h => h) (Or.inl ⟨by rfl, ?_⟩) (by assumption) ?_
    rotate_left
    · (intro w hSw; (try dsimp only at hSw); go_simp; try with_reducible rfl)
    try simp only [Act.put, List.setIfInBounds_toArray, List.set_cons_zero, List.set_cons_succ]
    refine wpAnyH_take (i := 15) (oi := { dst := some 87, op := Go.Op.move (Go.Operand.tmp 2), type := 23, pos := "disk.go:82", after := #[], guard := none }) (v := ?_) rfl (by kernel_rfl) (by kernel_rfl) (by kernel_rfl) (fun _ _ _ h => h) (Or.inl ⟨by rfl, ?_⟩) (by assumption) ?_
    rotate_left
    · (intro w hSw; (try dsimp only at hSw); go_simp; try with_reducible rfl)
    try simp only [Act.put, List.setIfInBounds_toArray, List.set_cons_zero, List.set_cons_succ]
    refine wpAnyH_ready (rs := [5, 13]) (by kernel_rfl) (by simp) ?_
    refine AllReadyH.cons (o := { dst := some 77, op := Go.Op.buildSlice 23 0 #[], type := 23, pos := "disk.go:82", after := #[], guard := none }) rfl (fun K hK => ?_) ?_
    go_simp
    obtain ⟨wA, hwA⟩ : ∃ wA, w3.alloc (.cells #[] 5) = wA := ⟨_, rfl⟩
    rw [hwA]
    have bA : Below w3.heap.size w3 wA := by rw [← hwA]; exact below_refl_alloc _ _
    have c1A : wA.cell? ⟨r, 1, none⟩ = some (.slice (some ⟨g, 0, none⟩) ny Y.c) := (bA.cell (p := ⟨r, 1, none⟩) hrl).trans c13
    have k1A : wA.cell? ⟨g, i * 3 + 1, none⟩ = some (.slice f2.A f2.b.length f2.c) := (bA.cell (p := ⟨g, i * 3 + 1, none⟩) hgl).trans k13
    refine hK.out _ _ (c1A) (fun hHeld => ?_)
    clear hK K
    try simp only [Act.put, List.setIfInBounds_toArray, List.set_cons_zero, List.set_cons_succ]
    refine wpAnyH_ready (rs := [13]) (by kernel_rfl) (by simp) ?_
    refine AllReadyH.cons (o := { dst := some 85, op := Go.Op.load 23 (Go.Operand.tmp 84), type := 23, pos := "disk.go:82", after := #[{ on := 12, ground := Go.Ground.data }], guard := none }) rfl (fun K hK => ?_) AllReadyH.nil
    go_simp
    refine hK.out _ _ (c1A) (fun hHeld => ?_)
    clear hK K
    try simp only [Act.put, List.setIfInBounds_toArray, List.set_cons_zero, List.set_cons_succ]
    refine wpAnyH_ready (rs := [14]) (by kernel_rfl) (by simp) ?_
    refine AllReadyH.cons (o := { dst := some 86, op := Go.Op.call { callee := Go.Callee.builtin Go.Builtin.append, args := #[Go.Operand.tmp 77, Go.Operand.tmp 85], argTypes := #[23, 23] }, type := 23, pos := "disk.go:82", after := #[{ on := 5, ground := Go.Ground.data }, { on := 13, ground := Go.Ground.data }], guard := none }) rfl (fun K hK => ?_) AllReadyH.nil
    rw [if_pos (by rfl)]
    refine wpB_append_op (.tmp 77) (.tmp 85) rfl w3.heap.size _ 0 [] rfl (by rw [← hwA]; exact own_empty w3 _ _) w3.heap.size f2.A f2.b.length f2.c f2.b rfl (hbs3.below bA) f2.b.length f2.b (by omega) rfl (by omega) bA.size ?_
    intro A7 c7 w7 o7 b7 hc7 hm7
    have b37 : Below w3.heap.size w3 w7 := bA.trans b7
    have c17 : w7.cell? ⟨r, 1, none⟩ = some (.slice (some ⟨g, 0, none⟩) ny Y.c) := (b37.cell (p := ⟨r, 1, none⟩) hrl).trans c13
    refine hK.out _ _ (c17) (fun hHeld => ?_)
    clear hK K
    try simp only [Act.put, List.setIfInBounds_toArray, List.set_cons_zero, List.set_cons_succ]
    refine wpAnyH_ready (rs := [16]) (by kernel_rfl) (by simp) ?_
    refine AllReadyH.cons (o := { dst := some 88, op := Go.Op.call { callee := Go.Callee.builtin Go.Builtin.append, args := #[Go.Operand.tmp 86, Go.Operand.tmp 87], argTypes := #[23, 23] }, type := 23, pos := "disk.go:82", after := #[{ on := 14, ground := Go.Ground.data }, { on := 15, ground := Go.Ground.data }, { on := 14, ground := Go.Ground.chain }], guard := none }) rfl (fun K hK => ?_) AllReadyH.nil
    rw [if_pos (by rfl)]
    refine wpB_append_op (.tmp 86) (.tmp 87) rfl w3.heap.size _ f2.b.length f2.b rfl o7 base A m c nb rfl (HNB3.out.below (b37.mono hd3.base_le)) (f2.b.length + m) (f2.b ++ nb) rfl rfl (by omega) b37.size ?_
    intro A8 c8 w8 o8 b8 hc8 hm8
    have b38 : Below w3.heap.size w3 w8 := b37.trans b8
    have c18 : w8.cell? ⟨r, 1, none⟩ = some (.slice (some ⟨g, 0, none⟩) ny Y.c) := (b38.cell (p := ⟨r, 1, none⟩) hrl).trans c13
    have k18 : w8.cell? ⟨g, i * 3 + 1, none⟩ = some (.slice f2.A f2.b.length f2.c) := (b38.cell (p := ⟨g, i * 3 + 1, none⟩) hgl).trans k13
    have fz8 : w8.frozen? ⟨g, i * 3 + 1, none⟩ = false := by
      obtain ⟨cs, hb⟩ := (hd3.below b38).row_blk HG.out
      exact hb.free _
    refine hK.out _ _ (c18) (fun hHeld => ?_)
    clear hK K
    try simp only [Act.put, List.setIfInBounds_toArray, List.set_cons_zero, List.set_cons_succ]
    refine wpAnyH_take (i := 17) (oi := { dst := some 89, op := Go.Op.indexAddr 74 (Go.Operand.tmp 75) (Go.Operand.tmp 76), type := 0, pos := "disk.go:82", after := #[{ on := 3, ground := Go.Ground.data }, { on := 4, ground := Go.Ground.data }, { on := 0, ground := Go.Ground.phase }, { on := 1, ground := Go.Ground.phase }, { on := 2, ground := Go.Ground.phase }, { on := 3, ground := Go.Ground.phase }, { on := 4, ground := Go.Ground.phase }, { on := 5, ground := Go.Ground.phase }, { on := 6, ground := Go.Ground.phase }, { on := 7, ground := Go.Ground.phase }, { on := 8, ground := Go.Ground.phase }, { on := 9, ground := Go.Ground.phase }, { on := 10, ground := Go.Ground.phase }, { on := 11, ground := Go.Ground.phase }, { on := 12, ground := Go.Ground.phase }, { on := 13, ground := Go.Ground.phase }, { on := 14, ground := Go.Ground.phase }, { on := 15, ground := Go.Ground.phase }, { on := 16, ground := Go.Ground.phase }], guard := none }) (v := ?_) rfl (by kernel_rfl) (by kernel_rfl) (by kernel_rfl) (fun _ _ _ h => h) (Or.inl ⟨by rfl, ?_⟩) (by assumption) ?_
    rotate_left
    · (intro w hSw; (try dsimp only at hSw); go_simp; try with_reducible rfl)
    try simp only [Act.put, List.setIfInBounds_toArray, List.set_cons_zero, List.set_cons_succ]
    refine wpAnyH_take (i := 18) (oi := { dst := some 90, op := Go.Op.fieldAddr 78 (Go.Operand.tmp 89) 1, type := 0, pos := "disk.go:82", after := #[{ on := 17, ground := Go.Ground.data }, { on := 0, ground := Go.Ground.phase }, { on := 1, ground := Go.Ground.phase }, { on := 2, ground := Go.Ground.phase }, { on := 3, ground := Go.Ground.phase }, { on := 4, ground := Go.Ground.phase }, { on := 5, ground := Go.Ground.phase }, { on := 6, ground := Go.Ground.phase }, { on := 7, ground := Go.Ground.phase }, { on := 8, ground := Go.Ground.phase }, { on := 9, ground := Go.Ground.phase }, { on := 10, ground := Go.Ground.phase }, { on := 11, ground := Go.Ground.phase }, { on := 12, ground := Go.Ground.phase }, { on := 13, ground := Go.Ground.phase }, { on := 14, ground := Go.Ground.phase }, { on := 15, ground := Go.Ground.phase }, { on := 16, ground := Go.Ground.phase }], guard := none }) (v := ?_) rfl (by kernel_rfl) (by kernel_rfl) (by kernel_rfl) (fun _ _ _ h => h) (Or.inl ⟨by rfl, ?_⟩) (by assumption) ?_
    rotate_left
    · (intro w hSw; (try dsimp only at hSw); go_simp; try with_reducible rfl)
    try simp only [Act.put, List.setIfInBounds_toArray, List.set_cons_zero, List.set_cons_succ]
    refine wpAnyH_ready (rs := [19]) (by kernel_rfl) (by simp) ?_
    refine AllReadyH.cons (o := { dst := none, op := Go.Op.store 23 (Go.Operand.tmp 90) (Go.Operand.tmp 88), type := 0, pos := "disk.go:82", after := #[{ on := 18, ground := Go.Ground.data }, { on := 16, ground := Go.Ground.data }, { on := 16, ground := Go.Ground.chain }, { on := 0, ground := Go.Ground.phase }, { on := 1, ground := Go.Ground.phase }, { on := 2, ground := Go.Ground.phase }, { on := 3, ground := Go.Ground.phase }, { on := 4, ground := Go.Ground.phase }, { on := 5, ground := Go.Ground.phase }, { on := 6, ground := Go.Ground.phase }, { on := 7, ground := Go.Ground.phase }, { on := 8, ground := Go.Ground.phase }, { on := 9, ground := Go.Ground.phase }, { on := 10, ground := Go.Ground.phase }, { on := 11, ground := Go.Ground.phase }, { on := 12, ground := Go.Ground.phase }, { on := 13, ground := Go.Ground.phase }, { on := 14, ground := Go.Ground.phase }, { on := 15, ground := Go.Ground.phase }, { on := 16, ground := Go.Ground.phase }], guard := none }) rfl (fun K hK => ?_) AllReadyH.nil
    go_simp
    obtain ⟨wE, hwE⟩ : ∃ wE, w8.setCell ⟨g, i * 3 + 1, none⟩ (.slice A8 (f2.b.length + m) c8) = wE := ⟨_, rfl⟩
    rw [hwE]
    have c1E : wE.cell? ⟨r, 1, none⟩ = some (.slice (some ⟨g, 0, none⟩) ny Y.c) := by rw [← hwE]; exact (World.cell?_setCell_other _ _ _ _ (by simp [hgr])).trans c18
    refine hK.out _ _ (c1E) (fun hHeld => ?_)
    clear hK K
    try simp only [Act.put, List.setIfInBounds_toArray, List.set_cons_zero, List.set_cons_succ]
    refine wpAnyH_done (by kernel_rfl) ?_ _
    rotate_left 1
    refine AllReadyH.cons (o := { dst := some 85, op := Go.Op.load 23 (Go.Operand.tmp 84), type := 23, pos := "disk.go:82", after := #[{ on := 12, ground := Go.Ground.data }], guard := none }) rfl (fun K hK => ?_) AllReadyH.nil
    go_simp
    refine hK.out _ _ (c13) (fun hHeld => ?_)
    clear hK K
    try simp only [Act.put, List.setIfInBounds_toArray, List.set_cons_zero, List.set_cons_succ]
    refine wpAnyH_ready (rs := [5]) (by kernel_rfl) (by simp) ?_
    refine AllReadyH.cons (o := { dst := some 77, op := Go.Op.buildSlice 23 0 #[], type := 23, pos := "disk.go:82", after := #[], guard := none }) rfl (fun K hK => ?_) AllReadyH.nil
    go_simp
    obtain ⟨wA, hwA⟩ : ∃ wA, w3.alloc (.cells #[] 5) = wA := ⟨_, rfl⟩
    rw [hwA]
    have bA : Below w3.heap.size w3 wA := by rw [← hwA]; exact below_refl_alloc _ _
    have c1A : wA.cell? ⟨r, 1, none⟩ = some (.slice (some ⟨g, 0, none⟩) ny Y.c) := (bA.cell (p := ⟨r, 1, none⟩) hrl).trans c13
    have k1A : wA.cell? ⟨g, i * 3 + 1, none⟩ = some (.slice f2.A f2.b.length f2.c) := (bA.cell (p := ⟨g, i * 3 + 1, none⟩) hgl).trans k13
    refine hK.out _ _ (c1A) (fun hHeld => ?_)
    clear hK K
    try simp only [Act.put, List.setIfInBounds_toArray, List.set_cons_zero, List.set_cons_succ]
    refine wpAnyH_ready (rs := [14]) (by kernel_rfl) (by simp) ?_
    refine AllReadyH.cons (o := { dst := some 86, op := Go.Op.call { callee := Go.Callee.builtin Go.Builtin.append, args := #[Go.Operand.tmp 77, Go.Operand.tmp 85], argTypes := #[23, 23] }, type := 23, pos := "disk.go:82", after := #[{ on := 5, ground := Go.Ground.data }, { on := 13, ground := Go.Ground.data }], guard := none }) rfl (fun K hK => ?_) AllReadyH.nil
    rw [if_pos (by rfl)]
    refine wpB_append_op (.tmp 77) (.tmp 85) rfl w3.heap.size _ 0 [] rfl (by rw [← hwA]; exact own_empty w3 _ _) w3.heap.size f2.A f2.b.length f2.c f2.b rfl (hbs3.below bA) f2.b.length f2.b (by omega) rfl (by omega) bA.size ?_
    intro A7 c7 w7 o7 b7 hc7 hm7
    have b37 : Below w3.heap.size w3 w7 := bA.trans b7
    have c17 : w7.cell? ⟨r, 1, none⟩ = some (.slice (some ⟨g, 0, none⟩) ny Y.c) := (b37.cell (p := ⟨r, 1, none⟩) hrl).trans c13
    refine hK.out _ _ (c17) (fun hHeld => ?_)
    clear hK K
    try simp only [Act.put, List.setIfInBounds_toArray, List.set_cons_zero, List.set_cons_succ]
    refine wpAnyH_ready (rs := [16]) (by kernel_rfl) (by simp) ?_
    refine AllReadyH.cons (o := { dst := some 88, op := Go.Op.call { callee := Go.Callee.builtin Go.Builtin.append, args := #[Go.Operand.tmp 86, Go.Operand.tmp 87], argTypes := #[23, 23] }, type := 23, pos := "disk.go:82", after := #[{ on := 14, ground := Go.Ground.data }, { on := 15, ground := Go.Ground.data }, { on := 14, ground := Go.Ground.chain }], guard := none }) rfl (fun K hK => ?_) AllReadyH.nil
    rw [if_pos (by rfl)]
    refine wpB_append_op (.tmp 86) (.tmp 87) rfl w3.heap.size _ f2.b.length f2.b rfl o7 base A m c nb rfl (HNB3.out.below (b37.mono hd3.base_le)) (f2.b.length + m) (f2.b ++ nb) rfl rfl (by omega) b37.size ?_
    intro A8 c8 w8 o8 b8 hc8 hm8
    have b38 : Below w3.heap.size w3 w8 := b37.trans b8
    have c18 : w8.cell? ⟨r, 1, none⟩ = some (.slice (some ⟨g, 0, none⟩) ny Y.c) := (b38.cell (p := ⟨r, 1, none⟩) hrl).trans c13
    have k18 : w8.cell? ⟨g, i * 3 + 1, none⟩ = some (.slice f2.A f2.b.length f2.c) := (b38.cell (p := ⟨g, i * 3 + 1, none⟩) hgl).trans k13
    have fz8 : w8.frozen? ⟨g, i * 3 + 1, none⟩ = false := by
      obtain ⟨cs, hb⟩ := (hd3.below b38).row_blk HG.out
      exact hb.free _
    refine hK.out _ _ (c18) (fun hHeld => ?_)
    clear hK K
    try simp only [Act.put, List.setIfInBounds_toArray, List.set_cons_zero, List.set_cons_succ]
    refine wpAnyH_take (i := 17) (oi := { dst := some 89, op := Go.Op.indexAddr 74 (Go.Operand.tmp 75) (Go.Operand.tmp 76), type := 0, pos := "disk.go:82", after := #[{ on := 3, ground := Go.Ground.data }, { on := 4, ground := Go.Ground.data }, { on := 0, ground := Go.Ground.phase }, { on := 1, ground := Go.Ground.phase }, { on := 2, ground := Go.Ground.phase }, { on := 3, ground := Go.Ground.phase }, { on := 4, ground := Go.Ground.phase }, { on := 5, ground := Go.Ground.phase }, { on := 6, ground := Go.Ground.phase }, { on := 7, ground := Go.Ground.phase }, { on := 8, ground := Go.Ground.phase }, { on := 9, ground := Go.Ground.phase }, { on := 10, ground := Go.Ground.phase }, { on := 11, ground := Go.Ground.phase }, { on := 12, ground := Go.Ground.phase }, { on := 13, ground := Go.Ground.phase }, { on := 14, ground := Go.Ground.phase }, { on := 15, ground := Go.Ground.phase }, { on := 16, ground := Go.Ground.phase }], guard := none }) (v := ?_) rfl (by kernel_rfl) (by kernel_rfl) (by kernel_rfl) (fun _ _ _ h => h) (Or.inl ⟨by rfl, ?_⟩) (by assumption) ?_
    rotate_left
    · (intro w hSw; (try dsimp only at hSw); go_simp; try with_reducible rfl)
    try simp only [Act.put, List.setIfInBounds_toArray, List.set_cons_zero, List.set_cons_succ]
    refine wpAnyH_take (i := 18) (oi := { dst := some 90, op := Go.Op.fieldAddr 78 (Go.Operand.tmp 89) 1, type := 0, pos := "disk.go:82", after := #[{ on := 17, ground := Go.Ground.data }, { on := 0, ground := Go.Ground.phase }, { on := 1, ground := Go.Ground.phase }, { on := 2, ground := Go.Ground.phase }, { on := 3, ground := Go.Ground.phase }, { on := 4, ground := Go.Ground.phase }, { on := 5, ground := Go.Ground.phase }, { on := 6, ground := Go.Ground.phase }, { on := 7, ground := Go.Ground.phase }, { on := 8, ground := Go.Ground.phase }, { on := 9, ground := Go.Ground.phase }, { on := 10, ground := Go.Ground.phase }, { on := 11, ground := Go.Ground.phase }, { on := 12, ground := Go.Ground.phase }, { on := 13, ground := Go.Ground.phase }, { on := 14, ground := Go.Ground.phase }, { on := 15, ground := Go.Ground.phase }, { on := 16, ground := Go.Ground.phase }], guard := none }) (v := ?_) rfl (by kernel_rfl) (by kernel_rfl) (by kernel_rfl) (fun _ _ _ h => h) (Or.inl ⟨by rfl, ?_⟩) (by assumption) ?_
    rotate_left
    · (intro w hSw; (try dsimp only at hSw); go_simp; try with_reducible rfl)
    try simp only [Act.put, List.setIfInBounds_toArray, List.set_cons_zero, List.set_cons_succ]
    refine wpAnyH_ready (rs := [19]) (by kernel_rfl) (by simp) ?_
    refine AllReadyH.cons (o := { dst := none, op := Go.Op.store 23 (Go.Operand.tmp 90) (Go.Operand.tmp 88), type := 0, pos := "disk.go:82", after := #[{ on := 18, ground := Go.Ground.data }, { on := 16, ground := Go.Ground.data }, { on := 16, ground := Go.Ground.chain }, { on := 0, ground := Go.Ground.phase }, { on := 1, ground := Go.Ground.phase }, { on := 2, ground := Go.Ground.phase }, { on := 3, ground := Go.Ground.phase }, { on := 4, ground := Go.Ground.phase }, { on := 5, ground := Go.Ground.phase }, { on := 6, ground := Go.Ground.phase }, { on := 7, ground := Go.Ground.phase }, { on := 8, ground := Go.Ground.phase }, { on := 9, ground := Go.Ground.phase }, { on := 10, ground := Go.Ground.phase }, { on := 11, ground := Go.Ground.phase }, { on := 12, ground := Go.Ground.phase }, { on := 13, ground := Go.Ground.phase }, { on := 14, ground := Go.Ground.phase }, { on := 15, ground := Go.Ground.phase }, { on := 16, ground := Go.Ground.phase }], guard := none }) rfl (fun K hK => ?_) AllReadyH.nil
    go_simp
    obtain ⟨wE, hwE⟩ : ∃ wE, w8.setCell ⟨g, i * 3 + 1, none⟩ (.slice A8 (f2.b.length + m) c8) = wE := ⟨_, rfl⟩
    rw [hwE]
    have c1E : wE.cell? ⟨r, 1, none⟩ = some (.slice (some ⟨g, 0, none⟩) ny Y.c) := by rw [← hwE]; exact (World.cell?_setCell_other _ _ _ _ (by simp [hgr])).trans c18
    refine hK.out _ _ (c1E) (fun hHeld => ?_)
    clear hK K
    try simp only [Act.put, List.setIfInBounds_toArray, List.set_cons_zero, List.set_cons_succ]
    refine wpAnyH_done (by kernel_rfl) ?_ _
    all_goals (
      clear hHeld
      have hrowE : wE.ownsRow base 78 3 Y.v Y.L.length ((Y.L.set i (appF f2 A8 c8 nb)).flatMap rcells) := by
        rw [← hwE]
        exact row_store (hd3.below b38).row HG.out HF.out (j := 1) (by omega) (by simp [rcells, RFE.v, appF, hml.out])
      have hlen8 : (f2.b ++ nb).length = f2.b.length + m := by rw [List.length_append, hml.out]
      have ht3E : Turn [g] w3 wE := by
        rw [← hwE]
        exact (Turn.of_below b38).trans (Turn.set (B := [g]) (.inl (by simp))) (fun q hq => .inl hq)
      have e9 : (appF f2 A8 c8 nb).v = .slice A8 (f2.b.length + m) c8 := by unfold appF RFE.v; simp only [hlen8]
      have hne8 : ∀ q, (Value.slice A8 (f2.b.length + m) c8).ownBlock = some q → w3.heap.size ≤ q ∧ q ≠ g := fun q hq => ⟨(o8.lt q hq).1, fun e => by have := (o8.lt q hq).1; omega⟩
      have hr8 : Row w8 (.slice A8 (f2.b.length + m) c8) (f2.b ++ nb) := row_of_own o8
      have hrE : Row wE (appF f2 A8 c8 nb).v (appF f2 A8 c8 nb).b := by
        rw [e9]
        refine hr8.keep fun q hq => ?_
        rw [← hwE]
        exact Below.heap_setCell _ _ _ _ (hne8 q hq).2
      have hfw : RFW wE (appF f2 A8 c8 nb) := ⟨hrE, by unfold appF; simp only [hlen8]; exact Nat.le_trans HFL.out.2.1 (Nat.le_add_right _ _), HFL.out.2.2⟩
      have hbE : ∀ q, (appF f2 A8 c8 nb).v.ownBlock = some q → w3.heap.size ≤ q := fun q hq => by rw [e9] at hq; exact (hne8 q hq).1
      have hX1 := hd3.set_row (f' := appF f2 A8 c8 nb) HG.out HF.out ht3E hrowE hfw (fun q hq => Nat.le_trans hd3.base_le (hbE q hq)) (by unfold appF; simp only [hlen8]; have := HUS.out; have := hml.out; omega)
      have hs23 : w3.heap.size = wS.heap.size := by rw [← hw3]; rfl
      have ht2E : Turn (Y.bl r) wS wE := by
        have h9 : Turn (Y.bl r) wS w3 := by rw [← hw3]; exact (Turn.refl _ wS).drewN 1
        exact h9.trans ht3E (fun q hq => .inl (by simp at hq; subst hq; exact rbl_v HG.out))
      obtain ⟨W5, hW5⟩ : ∃ W5, wE = W5 := ⟨_, rfl⟩
      have HX : Hid (RW W5 base r { Y with L := Y.L.set i (appF f2 A8 c8 nb) } ∧ Turn (X.bl r) w W5 ∧ ∀ q ∈ ({ Y with L := Y.L.set i (appF f2 A8 c8 nb) } : RDS).bl r, q ∈ X.bl r ∨ w.heap.size ≤ q) := by
        rw [← hW5]
        refine ⟨hX1, HTY.out.1.trans ht2E HTY.out.2, fun q hq => ?_⟩
        rcases bl_set HF.out q hq with h1 | h1
        · exact HTY.out.2 q h1
        · exact .inr (by have := hbE q h1; have := HTY.out.1.size; omega)
      clear hrowE hlen8 ht3E e9 hne8 hr8 hrE hfw hbE hX1 hs23 ht2E c1E c18 c17 k18 fz8 o7 o8 b38 b37 b8 b7 bA c1A k1A hwA hbs3 hd3 c13 k13 hwE hw3
      rw [hW5]
      go_wp2_with fail
      have hbn := rdid_any base r _ W5 HX.out.1
      have HBN := Lib.hid hbn
      clear hbn
      refine (unhide3 HBN).mono ?_
      rintro en w5 ⟨rfl, d5, t5⟩
      go_wp2_with fail
      go_ret
      refine ⟨0, _, rfl, .inr (.inr ⟨H0.out, HFT.out, rfl, .inr ⟨HE.out, A6, c6, A8, c8, by rw [HYF.out.1, HYF.out.2, HI.out]; rfl⟩⟩), d5, ?_, ?_⟩
      · exact HX.out.2.1.trans t5 (fun q hq => HX.out.2.2 q hq)
      · intro q hq
        rw [didX_bl] at hq
        exact HX.out.2.2 q hq))
theorem rappend_any (base r : Nat) (X : RDS) (w : World) (h : RW w base r X) (s : List UInt8) (hs : s.length ≤ 140737488351232) (A : Option Addr) (m c : Nat) (nb : List UInt8) (hr : Bs w base A m nb) (hm : m ≤ 1073741824) (hfw : X.L.length < 4096) :
    Calls Try.prog 36 #[.pointer (some ⟨r, 0, none⟩), .string (str s), .slice A m c] w (RetX base r X (RAppR X s nb) w) := by
  rcases Nat.eq_zero_or_pos (rmayE X.left [s]) with h0 | h0
  · by_cases hfit : X.room < X.used + nb.length
    · exact rapp_full base r X w h s hs A m c nb hr hm h0 hfit
    · rcases he : spotB s X.L with _ | _
      · refine rapp_new base r X w h s hs A m c nb hr hm h0 he (by omega) hfw ?_
        unfold rmayE at h0
        split at h0
        · omega
        · split at h0
          · rename_i h1
            simp [okName] at h1
            exact h1.2
          · omega
      · exact rapp_old base r X w h s hs A m c nb hr hm h0 he (by omega)
  · exact rapp_bad base r X w h s hs A m c nb hr hm _ rfl (by simp; omega)
end Go.Proofs.Ytcoimlenejffpaa

/- disk: Append. -/
import Derived.Test.YtcoimlenejffpaaDiskC
import Derived.WalkKit
import Derived.Deep.RegionHeld3
import Derived.StillTailTactics
import Derived.Deep.RegionWith
namespace Go.Proofs.Ytcoimlenejffpaa
set_option linter.all false
open Go.RowKit
theorem key_str (s : List UInt8) (hs : s.length ≤ 140737488351232) : keyOf Try.prog 9 (.string (str s)) = some (.string s) := by
  have h1 := str_sz s
  have h2 : (str s).size ≤ maxLen := by simp only [maxLen]; omega
  have h3 : (str s).data.toList = s := rfl
  simp [keyOf, Try.underlying9, mapKey, h2, h3]
theorem look_run {w : World} {base d : Nat} {S : DS} (h : DW w base d S) (s : List UInt8) (hs : s.length ≤ 140737488351232) :
    (Instr.lookup 57 (.map (some S.m)) (.string (str s)) false).run Try.prog w = .ok (mkP ((getE s S.E).map (·.g))) w := by
  have hz : (zeroValue 61).run Try.prog w = .ok (.pointer none) w := by kernel_rfl
  obtain ⟨v, ps, h1, h2⟩ := h.map.lookup (Go.Maps.string_keyed Try.underlying9) Try.underlying57 hz (zd := .nil) (zp := []) rfl (key_str s hs)
  rw [DL_at] at h2
  obtain ⟨c, rfl, e⟩ := ptrR_inv h2
  have e1 : mkD (getL s (enOf S.E)) = mkD c := by injection e
  rw [h1, ← mkD_inj e1, getL_getE]
/-- Behind a method of a disk. -/
def RetD (base d : Nat) (S : DS) (R : Nat → DS → Prop) (w : World) (e : Ending) (w' : World) : Prop :=
  ∃ (code : Nat) (S' : DS), e = .returned (.int .i64 (code : Int)) ∧ R code S' ∧ DW w' base d S' ∧ Turn (S.bl d) w w' ∧ ∀ i ∈ S'.bl d, i ∈ S.bl d ∨ w.heap.size ≤ i
def AppR (S : DS) (s nb : List UInt8) (code : Nat) (S' : DS) : Prop :=
  (mayE S [s] ≠ 0 ∧ code = mayE S [s] ∧ S' = S) ∨
  (mayE S [s] = 0 ∧ (S.room < S.used + nb.length ∨ (getE s S.E = none ∧ 4096 ≤ S.E.length)) ∧ code = 6 ∧ S' = S) ∨
  (mayE S [s] = 0 ∧ S.used + nb.length ≤ S.room ∧ code = 0 ∧
    ((∃ e v', getE s S.E = some e ∧ S' = burnS (setF S s ⟨e.s, e.g, v', e.b ++ nb, e.l⟩)) ∨
     (getE s S.E = none ∧ S.E.length < 4096 ∧ ∃ g v', S' = burnS (setF (insF S ⟨s, g, .slice none 0 0, [], 0⟩) s ⟨s, g, v', nb, 0⟩))))
theorem may_zero {S : DS} {l : List (List UInt8)} (h : mayE S l = 0) : S.fused = true → 0 < S.left := by
  intro hf
  unfold mayE at h
  rw [hf] at h
  rcases Nat.eq_zero_or_pos S.left with h0 | h0
  · rw [if_pos ⟨rfl, h0⟩] at h; omega
  · exact h0
/-- A file's block is not its bytes' block. -/
theorem hne_v {w : World} {base d : Nat} {S : DS} {e : FE} (h : DW w base d S) (he : e ∈ S.E) : some e.g ≠ e.v.ownBlock := by
  intro hv
  obtain ⟨E1, E2, e1⟩ := List.append_of_mem he
  have hn := h.nodup
  rw [bl_split e1] at hn
  have := (List.nodup_append.1 (List.nodup_append.1 hn).2.1).1
  unfold FE.bl at this
  rw [← hv] at this
  simp at this
/-- What stands over a region that asks how many bytes there are. -/
def HoldD (base d : Nat) (S : DS) (w W w' : World) : Prop := DW w' base d S ∧ Below W.heap.size W w' ∧ Below w.heap.size w W
theorem HoldD.step {base d : Nat} {S : DS} {w W w1 w2 : World} (h : HoldD base d S w W w1) (b : Below w1.heap.size w1 w2) : HoldD base d S w W w2 := ⟨h.1.below b, h.2.1.trans (b.mono h.2.1.size), h.2.2⟩
theorem HoldD.drew {base d : Nat} {S : DS} {w W w1 : World} (h : HoldD base d S w W w1) : HoldD base d S w W w1.drew :=
  ⟨h.1.keep (fun _ _ => rfl) (Nat.le_refl _), ⟨h.2.1.os, h.2.1.tape, h.2.1.output, h.2.1.size, h.2.1.block⟩, h.2.2⟩
theorem HoldD.dw {base d : Nat} {S : DS} {w W w1 : World} (h : HoldD base d S w W w1) : DW w1 base d S := h.1
theorem holdD_all {base d : Nat} {S : DS} {w W w1 : World} (h : HoldD base d S w W w1) : (w1.cell? ⟨d, 0, none⟩ = some (.int .i64 (S.room : Int)) ∧ w1.cell? ⟨d, 1, none⟩ = some (.map (some S.m))) ∧ HoldD base d S w W w1 :=
  ⟨⟨h.1.cell.cell 0, h.1.cell.cell 1⟩, h⟩
theorem holdD_in {base d : Nat} {S : DS} {w W w1 : World} (h : (w1.cell? ⟨d, 0, none⟩ = some (.int .i64 (S.room : Int)) ∧ w1.cell? ⟨d, 1, none⟩ = some (.map (some S.m))) ∧ HoldD base d S w W w1) : HoldD base d S w W w1 := h.2
set_option maxRecDepth 100000 in
set_option maxHeartbeats 3200000 in
theorem append_old (base d : Nat) (S : DS) (w : World) (h : DW w base d S) (s nb : List UInt8) (hs : s.length ≤ 140737488351232) (A : Option Addr) (m c : Nat) (hr : Bs w w.heap.size A m nb) (hm : m ≤ 1073741824)
    (h0 : mayE S [s] = 0) (e : FE) (he : getE s S.E = some e) (hfit : S.used + nb.length ≤ S.room) :
    Calls Try.prog 11 #[.pointer (some ⟨d, 0, none⟩), .string (str s), .slice A m c] w (RetD base d S (AppR S s nb) w) := by
  generalize hW : w.alloc (.cells #[.string (str s)] 9) = W
  have hb0 : Below w.heap.size w W := by rw [← hW]; exact (Below.refl _ _).alloc (Nat.le_refl _) _
  have hW1 : DW W base d S := h.below hb0
  have hrd : Rd W W.heap.size 1 (some ⟨w.heap.size, 0, none⟩) 1 ([s].map sv) := by rw [← hW]; simpa [sv] using Rd.one_new w (.string (str s)) 9
  have hmay := may_any base d S W hW1 (some ⟨w.heap.size, 0, none⟩) 1 1 [s] hrd (by omega) (by intro x hx; simp at hx; subst hx; exact hs)
  rw [h0] at hmay
  have HMAY := Lib.hid hmay
  have hlook := look_run hW1 s hs
  rw [he] at hlook
  have hlk : (Instr.lookup 57 (.map (some S.m)) (.string (str s)) false).run Try.prog W = .ok (.pointer (some ⟨e.g, 0, none⟩)) W := hlook
  have hml : Hid (nb.length = m) := hr.len
  have hro := h.room
  have hdec : ¬ ((S.room : Int) - (S.used : Int) < (m : Int)) := by have := hml.out; omega
  have hcc := hW1.cell
  unfold dcells at hcc
  have c0 : W.cell? ⟨d, 0, none⟩ = some (.int .i64 (S.room : Int)) := hcc.cell 0
  have c1 : W.cell? ⟨d, 1, none⟩ = some (.map (some S.m)) := hcc.cell 1
  have H1 := Lib.hid hW1
  have HR := Lib.hid ((hr.below hb0).more hb0.size)
  have HB0 := Lib.hid hb0
  have H0 := Lib.hid h0
  have HE := Lib.hid he
  have HH := Lib.hid h
  clear h hW1 hcc hmay hlook hr hb0 h0 he hrd
  go_enter Try.func11, Try.ntmps11
  go_wp2_with fail
  refine (unhide3 HMAY).mono ?_
  rintro en w1 ⟨rfl, rfl⟩
  go_wp2_with fail
  have hdec2 : decide (((S.room : Int) - (S.used : Int)) < (m : Int)) = false := decide_eq_false (by omega)
  have hwrap : IntKind.i64.wrap ((S.room : Int) - (S.used : Int)) = (S.room : Int) - (S.used : Int) := IntWalk.i64_in _ ⟨by omega, by omega⟩
  have HS1 : Hid (HoldD base d S w W W.drew) := HoldD.drew ⟨H1.out, Below.refl _ _, HB0.out⟩
  refine wp_region_held_drew (S := fun w' => (w'.cell? ⟨d, 0, none⟩ = some (.int .i64 (S.room : Int)) ∧ w'.cell? ⟨d, 1, none⟩ = some (.map (some S.m))) ∧ HoldD base d S w W w') (by kernel_rfl) (holdD_all HS1.out) (fun hHeld => ?_)
  refine wpAnyH_take (i := 0) (oi := { dst := some 22, op := Op.move (Operand.tmp 2), type := 23, pos := "disk.go:72", after := #[], guard := none }) (v := ?v0) rfl (by kernel_rfl) (by kernel_rfl) (by kernel_rfl) (fun _ _ _ h => h) (Or.inl ⟨by rfl, ?h0⟩) (by assumption) ?r0
  case h0 => (intro w hSw; (try dsimp only at hSw); go_simp; try with_reducible rfl)
  try simp only [Act.put, List.setIfInBounds_toArray, List.set_cons_zero, List.set_cons_succ]
  refine wpAnyH_take (i := 1) (oi := { dst := some 23, op := Op.call { callee := Callee.builtin Builtin.len, args := #[Operand.tmp 22], argTypes := #[23] }, type := 3, pos := "disk.go:72", after := #[{ on := 0, ground := Ground.data }], guard := none }) (v := ?v1) rfl (by kernel_rfl) (by kernel_rfl) (by kernel_rfl) (fun _ _ _ h => h) (Or.inl ⟨by rfl, ?h1⟩) (by assumption) ?r1
  case h1 => (intro w hSw; (try dsimp only at hSw); go_simp; try with_reducible rfl)
  try simp only [Act.put, List.setIfInBounds_toArray, List.set_cons_zero, List.set_cons_succ]
  refine wpAnyH_take (i := 2) (oi := { dst := some 24, op := Op.move (Operand.tmp 0), type := 25, pos := "disk.go:72", after := #[], guard := none }) (v := ?v2) rfl (by kernel_rfl) (by kernel_rfl) (by kernel_rfl) (fun _ _ _ h => h) (Or.inl ⟨by rfl, ?h2⟩) (by assumption) ?r2
  case h2 => (intro w hSw; (try dsimp only at hSw); go_simp; try with_reducible rfl)
  try simp only [Act.put, List.setIfInBounds_toArray, List.set_cons_zero, List.set_cons_succ]
  refine wpAnyH_take (i := 3) (oi := { dst := some 25, op := Op.nilCheck (Operand.tmp 24), type := 0, pos := "disk.go:72", after := #[{ on := 2, ground := Ground.data }], guard := none }) (v := ?v3) rfl (by kernel_rfl) (by kernel_rfl) (by kernel_rfl) (fun _ _ _ h => h) (Or.inl ⟨by rfl, ?h3⟩) (by assumption) ?r3
  case h3 => (intro w hSw; (try dsimp only at hSw); go_simp; try with_reducible rfl)
  try simp only [Act.put, List.setIfInBounds_toArray, List.set_cons_zero, List.set_cons_succ]
  refine wpAnyH_take (i := 4) (oi := { dst := some 26, op := Op.fieldAddr 59 (Operand.tmp 25) 0, type := 0, pos := "disk.go:72", after := #[{ on := 3, ground := Ground.data }], guard := none }) (v := ?v4) rfl (by kernel_rfl) (by kernel_rfl) (by kernel_rfl) (fun _ _ _ h => h) (Or.inl ⟨by rfl, ?h4⟩) (by assumption) ?r4
  case h4 => (intro w hSw; (try dsimp only at hSw); go_simp; try with_reducible rfl)
  try simp only [Act.put, List.setIfInBounds_toArray, List.set_cons_zero, List.set_cons_succ]
  refine wpAnyH_take (i := 5) (oi := { dst := some 27, op := Op.load 3 (Operand.tmp 26), type := 3, pos := "disk.go:72", after := #[{ on := 4, ground := Ground.data }], guard := none }) (v := ?v5) rfl (by kernel_rfl) (by kernel_rfl) (by kernel_rfl) (fun _ _ _ h => h) (Or.inl ⟨by rfl, ?h5⟩) (by assumption) ?r5
  case h5 => (intro w hSw; (try dsimp only at hSw); go_simp; try with_reducible rfl)
  try simp only [Act.put, List.setIfInBounds_toArray, List.set_cons_zero, List.set_cons_succ]
  refine wpAnyH_take (i := 6) (oi := { dst := some 28, op := Op.move (Operand.tmp 0), type := 25, pos := "disk.go:72", after := #[], guard := none }) (v := ?v6) rfl (by kernel_rfl) (by kernel_rfl) (by kernel_rfl) (fun _ _ _ h => h) (Or.inl ⟨by rfl, ?h6⟩) (by assumption) ?r6
  case h6 => (intro w hSw; (try dsimp only at hSw); go_simp; try with_reducible rfl)
  try simp only [Act.put, List.setIfInBounds_toArray, List.set_cons_zero, List.set_cons_succ]
  refine wpAnyH_ready (rs := [7]) (by kernel_rfl) (by simp) ?_
  refine AllReadyH.cons (o := { dst := some 29, op := Op.call { callee := Callee.value (Operand.func 16), args := #[Operand.tmp 28], argTypes := #[25] }, type := 3, pos := "disk.go:72", after := #[{ on := 6, ground := Ground.data }], guard := none }) rfl (fun K hK => ?_) AllReadyH.nil
  go_simp
  refine (used_any base d S _ (holdD_in hHeld).dw).mono ?_
  rintro en w' ⟨rfl, b⟩
  have hst2 := holdD_all ((holdD_in hHeld).step b)
  clear b hHeld
  go_wp2_with fail
  refine hK.out _ _ (hst2) (fun hHeld => ?_)
  clear hK K
  try simp only [Act.put, List.setIfInBounds_toArray, List.set_cons_zero, List.set_cons_succ]
  refine wpAnyH_take (i := 8) (oi := { dst := some 30, op := Op.binOp BinOp.sub 3 (Operand.tmp 27) (Operand.tmp 29) 3, type := 3, pos := "disk.go:72", after := #[{ on := 5, ground := Ground.data }, { on := 7, ground := Ground.data }], guard := none }) (v := ?v8) rfl (by kernel_rfl) (by kernel_rfl) (by kernel_rfl) (fun _ _ _ h => h) (Or.inl ⟨by rfl, ?h8⟩) (by assumption) ?r8
  case h8 => (intro w hSw; (try dsimp only at hSw); go_simp; try with_reducible rfl)
  try simp only [Act.put, List.setIfInBounds_toArray, List.set_cons_zero, List.set_cons_succ]
  refine wpAnyH_take (i := 9) (oi := { dst := some 31, op := Op.binOp BinOp.gtr 3 (Operand.tmp 23) (Operand.tmp 30) 3, type := 4, pos := "disk.go:72", after := #[{ on := 1, ground := Ground.data }, { on := 8, ground := Ground.data }], guard := none }) (v := ?v9) rfl (by kernel_rfl) (by kernel_rfl) (by kernel_rfl) (fun _ _ _ h => h) (Or.inl ⟨by rfl, ?h9⟩) (by assumption) ?r9
  case h9 => (intro w hSw; (try dsimp only at hSw); go_simp; try with_reducible rfl)
  try simp only [Act.put, List.setIfInBounds_toArray, List.set_cons_zero, List.set_cons_succ]
  refine wpAnyH_take (i := 10) (oi := { dst := some 32, op := Op.move (Operand.tmp 31), type := 4, pos := "disk.go:72", after := #[{ on := 9, ground := Ground.data }, { on := 7, ground := Ground.chain }], guard := none }) (v := ?v10) rfl (by kernel_rfl) (by kernel_rfl) (by kernel_rfl) (fun _ _ _ h => h) (Or.inl ⟨by rfl, ?h10⟩) (by assumption) ?r10
  case h10 => (intro w hSw; (try dsimp only at hSw); go_simp; try with_reducible rfl)
  try simp only [Act.put, List.setIfInBounds_toArray, List.set_cons_zero, List.set_cons_succ]
  refine wpAnyH_take (i := 11) (oi := { dst := some 33, op := Op.move (Operand.tmp 8), type := 61, pos := "disk.go:72", after := #[{ on := 10, ground := Ground.guard }], guard := some (10, false) }) (v := ?v11) rfl (by kernel_rfl) (by kernel_rfl) (by kernel_rfl) (fun _ _ _ h => h) (Or.inl ⟨by rfl, ?h11⟩) (by assumption) ?r11
  case h11 => (intro w hSw; (try dsimp only at hSw); go_simp; try with_reducible rfl)
  try simp only [Act.put, List.setIfInBounds_toArray, List.set_cons_zero, List.set_cons_succ]
  refine wpAnyH_take (i := 12) (oi := { dst := some 34, op := Op.binOp BinOp.eql 61 (Operand.tmp 33) (Operand.const (Value.pointer none)) 61, type := 4, pos := "disk.go:72", after := #[{ on := 11, ground := Ground.data }, { on := 10, ground := Ground.guard }], guard := some (10, false) }) (v := ?v12) rfl (by kernel_rfl) (by kernel_rfl) (by kernel_rfl) (fun _ _ _ h => h) (Or.inl ⟨by rfl, ?h12⟩) (by assumption) ?r12
  case h12 => (intro w hSw; (try dsimp only at hSw); go_simp; try with_reducible rfl)
  try simp only [Act.put, List.setIfInBounds_toArray, List.set_cons_zero, List.set_cons_succ]
  refine wpAnyH_take (i := 13) (oi := { dst := some 35, op := Op.move (Operand.tmp 34), type := 4, pos := "disk.go:72", after := #[{ on := 12, ground := Ground.data }, { on := 10, ground := Ground.chain }, { on := 10, ground := Ground.guard }], guard := some (10, false) }) (v := ?v13) rfl (by kernel_rfl) (by kernel_rfl) (by kernel_rfl) (fun _ _ _ h => h) (Or.inl ⟨by rfl, ?h13⟩) (by assumption) ?r13
  case h13 => (intro w hSw; (try dsimp only at hSw); go_simp; try with_reducible rfl)
  try simp only [Act.put, List.setIfInBounds_toArray, List.set_cons_zero, List.set_cons_succ]
  refine wpAnyH_take (i := 14) (oi := { dst := some 36, op := Op.move (Operand.tmp 0), type := 25, pos := "disk.go:72", after := #[{ on := 13, ground := Ground.guard }], guard := some (13, true) }) (v := undef) rfl (by kernel_rfl) (by kernel_rfl) (by kernel_rfl) (fun _ _ _ h => h) (Or.inr ⟨by rfl, rfl⟩) (by assumption) ?_
  try simp only [Act.put, List.setIfInBounds_toArray, List.set_cons_zero, List.set_cons_succ]
  refine wpAnyH_take (i := 15) (oi := { dst := some 37, op := Op.nilCheck (Operand.tmp 36), type := 0, pos := "disk.go:72", after := #[{ on := 14, ground := Ground.data }, { on := 13, ground := Ground.guard }], guard := some (13, true) }) (v := undef) rfl (by kernel_rfl) (by kernel_rfl) (by kernel_rfl) (fun _ _ _ h => h) (Or.inr ⟨by rfl, rfl⟩) (by assumption) ?_
  try simp only [Act.put, List.setIfInBounds_toArray, List.set_cons_zero, List.set_cons_succ]
  refine wpAnyH_take (i := 16) (oi := { dst := some 38, op := Op.fieldAddr 59 (Operand.tmp 37) 1, type := 0, pos := "disk.go:72", after := #[{ on := 15, ground := Ground.data }, { on := 13, ground := Ground.guard }], guard := some (13, true) }) (v := undef) rfl (by kernel_rfl) (by kernel_rfl) (by kernel_rfl) (fun _ _ _ h => h) (Or.inr ⟨by rfl, rfl⟩) (by assumption) ?_
  try simp only [Act.put, List.setIfInBounds_toArray, List.set_cons_zero, List.set_cons_succ]
  refine wpAnyH_take (i := 17) (oi := { dst := some 39, op := Op.load 57 (Operand.tmp 38), type := 57, pos := "disk.go:72", after := #[{ on := 16, ground := Ground.data }, { on := 13, ground := Ground.guard }], guard := some (13, true) }) (v := undef) rfl (by kernel_rfl) (by kernel_rfl) (by kernel_rfl) (fun _ _ _ h => h) (Or.inr ⟨by rfl, rfl⟩) (by assumption) ?_
  try simp only [Act.put, List.setIfInBounds_toArray, List.set_cons_zero, List.set_cons_succ]
  refine wpAnyH_take (i := 18) (oi := { dst := some 40, op := Op.call { callee := Callee.builtin Builtin.len, args := #[Operand.tmp 39], argTypes := #[57] }, type := 3, pos := "disk.go:72", after := #[{ on := 17, ground := Ground.data }, { on := 13, ground := Ground.chain }, { on := 13, ground := Ground.guard }], guard := some (13, true) }) (v := undef) rfl (by kernel_rfl) (by kernel_rfl) (by kernel_rfl) (fun _ _ _ h => h) (Or.inr ⟨by rfl, rfl⟩) (by assumption) ?_
  try simp only [Act.put, List.setIfInBounds_toArray, List.set_cons_zero, List.set_cons_succ]
  refine wpAnyH_take (i := 19) (oi := { dst := some 41, op := Op.binOp BinOp.geq 3 (Operand.tmp 40) (Operand.const (Value.int IntKind.i64 4096)) 3, type := 4, pos := "disk.go:72", after := #[{ on := 18, ground := Ground.data }, { on := 13, ground := Ground.guard }], guard := some (13, true) }) (v := undef) rfl (by kernel_rfl) (by kernel_rfl) (by kernel_rfl) (fun _ _ _ h => h) (Or.inr ⟨by rfl, rfl⟩) (by assumption) ?_
  try simp only [Act.put, List.setIfInBounds_toArray, List.set_cons_zero, List.set_cons_succ]
  refine wpAnyH_take (i := 20) (oi := { dst := some 42, op := Op.pick (Operand.tmp 35) (Operand.tmp 41) (Operand.const (Value.bool false)), type := 4, pos := "disk.go:72", after := #[{ on := 13, ground := Ground.data }, { on := 19, ground := Ground.data }, { on := 10, ground := Ground.guard }], guard := some (10, false) }) (v := ?v20) rfl (by kernel_rfl) (by kernel_rfl) (by kernel_rfl) (fun _ _ _ h => h) (Or.inl ⟨by rfl, ?h20⟩) (by assumption) ?r20
  case h20 => (intro w hSw; (try dsimp only at hSw); go_simp; try with_reducible rfl)
  try simp only [Act.put, List.setIfInBounds_toArray, List.set_cons_zero, List.set_cons_succ]
  refine wpAnyH_take (i := 21) (oi := { dst := some 43, op := Op.pick (Operand.tmp 32) (Operand.const (Value.bool true)) (Operand.tmp 42), type := 4, pos := "disk.go:72", after := #[{ on := 10, ground := Ground.data }, { on := 20, ground := Ground.data }], guard := none }) (v := ?v21) rfl (by kernel_rfl) (by kernel_rfl) (by kernel_rfl) (fun _ _ _ h => h) (Or.inl ⟨by rfl, ?h21⟩) (by assumption) ?r21
  case h21 => (intro w hSw; (try dsimp only at hSw); go_simp; try with_reducible rfl)
  try simp only [Act.put, List.setIfInBounds_toArray, List.set_cons_zero, List.set_cons_succ]
  refine wpAnyH_done (by kernel_rfl) ?_ _
  obtain ⟨⟨z0, z1⟩, hst2⟩ := hst2
  obtain ⟨HE2, hem⟩ : Hid (getE s S.E = some e) ∧ e ∈ S.E := ⟨HE.out, (getE_mem HE.out).1⟩
  obtain ⟨f1, f2, f3⟩ := hst2.1.file e hem
  have HF1 := Lib.hid f1
  have HF2 := Lib.hid f2
  have HF3 := Lib.hid f3
  have g0 : w'.cell? ⟨e.g, 0, none⟩ = some e.v := f1.cell 0
  have gf : w'.frozen? ⟨e.g, 0, none⟩ = false := f1.free 0
  have HR2 := Lib.hid ((HR.out.below hst2.2.1).more hst2.2.1.size)
  have hel : e.b.length ≤ S.used := mem_le_sum hem
  have HST := Lib.hid hst2
  clear f1 f2 f3 hst2

  go_wp2_with (first
    | (at_builtin
       refine wp_append_row rfl (.tmp 67) (.tmp 68) rfl e.v e.b rfl HF2.out w'.heap.size A m c nb rfl HR2.out (by omega) ?_
       intro v3 w3 r3 g3 o3
       obtain ⟨A3, c3, hv3, _, _⟩ := r3.form
       obtain ⟨n3, hn3⟩ : ∃ n3, n3 = (e.b ++ nb).length := ⟨_, rfl⟩
       rw [← hn3] at hv3
       subst hv3
       have HN3 := Lib.hid hn3
       clear hn3
       have hb3 : Blk w3 e.g #[e.v, .int .u32 (e.l : Int)] 64 := HF1.out.grown g3 (hne_v HST.out.1 hem)
       have y0 : w3.cell? ⟨e.g, 0, none⟩ = some e.v := hb3.cell 0
       have yf := hb3.free 0
       have HB3 := Lib.hid hb3
       have HR3 := Lib.hid r3
       have HG3 := Lib.hid g3
       have HO3 := Lib.hid o3
       clear hb3 r3 g3 o3 g0 gf))
  have HE4 : Hid (e.g ∈ e.bl ∧ ∀ i, e.v.ownBlock = some i → i ∈ e.bl) := ⟨by simp [FE.bl], fun i hi => by simp [FE.bl, hi]⟩
  clear y0 yf z0 z1 c0 c1 hlk hdec
  obtain ⟨W4, hW4⟩ : ∃ W4, w3.setCell ⟨e.g, 0, none⟩ (.slice A3 n3 c3) = W4 := ⟨_, rfl⟩
  rw [hW4]
  have ht : Turn e.bl w' W4 := by
    rw [← hW4]
    exact (Turn.of_grown HG3.out (fun i hi => .inl (HE4.out.2 i hi))).trans (Turn.set (.inl HE4.out.1)) (fun i hi => .inl hi)
  have hno : (Value.slice A3 n3 c3).ownBlock ≠ some e.g := by
    rcases HO3.out with h | h
    · rw [h]; exact fun h2 => hne_v HST.out.1 hem h2.symm
    · rw [h]; intro h2; injection h2 with h2; have := HF1.out.lt; omega
  have hfw : FW W4 ⟨e.s, e.g, .slice A3 n3 c3, e.b ++ nb, e.l⟩ := by
    rw [← hW4]
    refine ⟨Blk.set HB3.out 0 _, HR3.out.keep fun i hi => Below.heap_setCell _ _ _ _ (fun h => hno (by rw [hi, h])), ?_⟩
    have := HF3.out
    simp only [List.length_append]; omega
  have hsf := HST.out.1.set_file (e' := ⟨e.s, e.g, .slice A3 n3 c3, e.b ++ nb, e.l⟩) HE2.out rfl rfl ht hfw
    (by rcases HO3.out with h | h; exact .inl h; exact .inr (.inl ⟨_, h, Nat.le_refl _⟩)) (by have := hml.out; simp only [List.length_append]; omega)
  have hz : 0 < 1 := by omega
  have hbn := burns_any base d _ W4 hsf.1 (may_zero H0.out)
  have HBN := Lib.hid hbn
  have HSF := Lib.hid hsf
  have HT := Lib.hid ht
  clear hbn hsf ht hfw hno hW4 HB3 HR3 HG3 HO3
  refine (unhide3 HBN).mono ?_
  rintro en w5 ⟨rfl, d5, t5⟩
  go_wp2_with fail
  go_ret
  have hbl : ∀ i ∈ e.bl, i ∈ S.bl d := fun i hi => by
    unfold FE.bl at hi
    rcases List.mem_cons.1 hi with rfl | h1
    · exact bl_g hem
    · exact bl_v hem (by simpa using h1)
  have hw0 : w.heap.size ≤ w'.heap.size := Nat.le_trans HST.out.2.2.size HST.out.2.1.size
  refine ⟨0, _, rfl, .inr (.inr ⟨H0.out, hfit, rfl, .inl ⟨e, _, HE2.out, rfl⟩⟩), d5, ?_, ?_⟩
  · have t1 : Turn (S.bl d) w w' := (Turn.of_below HST.out.2.2).trans (Turn.of_below (B := []) HST.out.2.1) (fun i hi => by simp at hi)
    have t2 : Turn (S.bl d) w W4 := t1.trans HT.out (fun i hi => .inl (hbl i hi))
    exact t2.trans t5 (fun i hi => .inl (by simp at hi; subst hi; exact bl_d _ _))
  · intro i hi
    rw [burnS_bl] at hi
    rcases HSF.out.2 i hi with h | h
    · exact .inl h
    · exact .inr (by omega)
end Go.Proofs.Ytcoimlenejffpaa

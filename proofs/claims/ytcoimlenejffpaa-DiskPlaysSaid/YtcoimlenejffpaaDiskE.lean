/- disk: Append: refused; a new file. -/
import Derived.Test.YtcoimlenejffpaaDiskD
namespace Go.Proofs.Ytcoimlenejffpaa
set_option linter.all false
open Go.RowKit
set_option maxRecDepth 100000 in
set_option maxHeartbeats 3200000 in
theorem append_bad (base d : Nat) (S : DS) (w : World) (h : DW w base d S) (s nb : List UInt8) (hs : s.length ≤ 140737488351232) (A : Option Addr) (m c : Nat)
    (e0 : Nat) (h0 : mayE S [s] = e0) (he0 : ((e0 : Int) != 0) = true) :
    Calls Try.prog 11 #[.pointer (some ⟨d, 0, none⟩), .string (str s), .slice A m c] w (RetD base d S (AppR S s nb) w) := by
  generalize hW : w.alloc (.cells #[.string (str s)] 9) = W
  have hb0 : Below w.heap.size w W := by rw [← hW]; exact (Below.refl _ _).alloc (Nat.le_refl _) _
  have hW1 : DW W base d S := h.below hb0
  have hrd : Rd W W.heap.size 1 (some ⟨w.heap.size, 0, none⟩) 1 ([s].map sv) := by rw [← hW]; simpa [sv] using Rd.one_new w (.string (str s)) 9
  have hmay := may_any base d S W hW1 (some ⟨w.heap.size, 0, none⟩) 1 1 [s] hrd (by omega) (by intro x hx; simp at hx; subst hx; exact hs)
  rw [h0] at hmay
  have HMAY := Lib.hid hmay
  have H1 := Lib.hid hW1
  have HB0 := Lib.hid hb0
  have hz : e0 ≠ 0 := by intro e; subst e; simp at he0
  have H0 := Lib.hid h0
  clear h hW1 hmay hb0 h0 hrd
  have HZ := Lib.hid hz
  clear hz
  go_enter Try.func11, Try.ntmps11
  go_wp2_with fail
  refine (unhide3 HMAY).mono ?_
  rintro en w1 ⟨rfl, rfl⟩
  go_wp2_with fail
  go_ret
  refine ⟨e0, S, rfl, .inl ⟨by rw [H0.out]; exact HZ.out, H0.out.symm, rfl⟩, H1.out, Turn.of_below HB0.out, fun i hi => .inl hi⟩
set_option maxRecDepth 100000 in
set_option maxHeartbeats 3200000 in
theorem append_full (base d : Nat) (S : DS) (w : World) (h : DW w base d S) (s nb : List UInt8) (hs : s.length ≤ 140737488351232) (A : Option Addr) (m c : Nat) (hr : Bs w w.heap.size A m nb)
    (h0 : mayE S [s] = 0) (hfit : S.room < S.used + nb.length) :
    Calls Try.prog 11 #[.pointer (some ⟨d, 0, none⟩), .string (str s), .slice A m c] w (RetD base d S (AppR S s nb) w) := by
  generalize hW : w.alloc (.cells #[.string (str s)] 9) = W
  have hb0 : Below w.heap.size w W := by rw [← hW]; exact (Below.refl _ _).alloc (Nat.le_refl _) _
  have hW1 : DW W base d S := h.below hb0
  have hrd : Rd W W.heap.size 1 (some ⟨w.heap.size, 0, none⟩) 1 ([s].map sv) := by rw [← hW]; simpa [sv] using Rd.one_new w (.string (str s)) 9
  have hmay := may_any base d S W hW1 (some ⟨w.heap.size, 0, none⟩) 1 1 [s] hrd (by omega) (by intro x hx; simp at hx; subst hx; exact hs)
  rw [h0] at hmay
  have HMAY := Lib.hid hmay
  have hlk := look_run hW1 s hs
  obtain ⟨pv, hpv⟩ : ∃ pv, mkP ((getE s S.E).map (·.g)) = pv := ⟨_, rfl⟩
  rw [hpv] at hlk
  clear hpv
  have hml : Hid (nb.length = m) := hr.len
  have hro := h.room
  have hdec : (S.room : Int) - (S.used : Int) < (m : Int) := by have := hml.out; omega
  have hcc := hW1.cell
  unfold dcells at hcc
  have c0 : W.cell? ⟨d, 0, none⟩ = some (.int .i64 (S.room : Int)) := hcc.cell 0
  have c1 : W.cell? ⟨d, 1, none⟩ = some (.map (some S.m)) := hcc.cell 1
  have H1 := Lib.hid hW1
  have HB0 := Lib.hid hb0
  have H0 := Lib.hid h0
  have HFT := Lib.hid hfit
  clear h hW1 hcc hmay hr hb0 h0 hrd hfit
  go_enter Try.func11, Try.ntmps11
  go_wp2_with fail
  refine (unhide3 HMAY).mono ?_
  rintro en w1 ⟨rfl, rfl⟩
  go_wp2_with fail
  have hdec2 : decide (((S.room : Int) - (S.used : Int)) < (m : Int)) = true := decide_eq_true hdec
  have hwrap : IntKind.i64.wrap ((S.room : Int) - (S.used : Int)) = (S.room : Int) - (S.used : Int) := IntWalk.i64_in _ ⟨by omega, by omega⟩
  have HS1 : Hid (HoldD base d S w W W.drew) := HoldD.drew ⟨H1.out, Below.refl _ _, HB0.out⟩
  have hun : undef = Value.tuple #[] := rfl
  refine wp_region_held_drew (S := fun w' => (w'.cell? ⟨d, 0, none⟩ = some (.int .i64 (S.room : Int)) ∧ w'.cell? ⟨d, 1, none⟩ = some (.map (some S.m))) ∧ HoldD base d S w W w') (by kernel_rfl) (holdD_all HS1.out) (fun hHeld => ?_)
  refine wpAnyH_take (i := 0) (oi := { dst := some 22, op := Op.move (Operand.tmp 2), type := 23, pos := "disk.go:72", after := #[], guard := none }) (v := ?v0) rfl (by kernel_rfl) (by kernel_rfl) (by kernel_rfl) (fun _ _ _ h => h) (Or.inl ⟨by rfl, ?h0⟩) (by assumption) ?r0
  case h0 => (intro w hSw; (try dsimp only at hSw); go_simp; try with_reducible rfl)
  try simp only [Act.put, List.setIfInBounds_toArray, List.set_cons_zero, List.set_cons_succ]
  refine wpAnyH_take (i := 1) (oi := { dst := some 23, op := Op.call { callee := Callee.builtin Builtin.len, args := #[Operand.tmp 22], argTypes := #[23] }, type := 3, pos := "disk.go:72", after := #[{ on := 0, ground := Ground.data }], guard := none }) (v := ?v1) rfl (by kernel_rfl) (by kernel_rfl) (by kernel_rfl) (fun _ _ _ h => h) (Or.inl ⟨by rfl, ?h1⟩) (by assumption) ?r1
  case h1 => (intro w hSw; (try dsimp only at hSw); go_simp; try with_reducible rfl)
  try simp only [Act.put, List.setIfInBounds_toArray, List.set_cons_zero, List.set_cons_succ]
  refine wpAnyH_take (i := 2) (oi := { dst := some 24, op := Op.move (Operand.tmp 0), type := 25, pos := "disk.go:72", after := #[], guard := none }) (v := ?v2) rfl (by kernel_rfl) (by kernel_rfl) (by kernel_rfl) (fun _ _ _ h => h) (Or.inl ⟨by rfl, ?h2⟩) (by assumption) ?r2
  case h2 => (intro w hSw; (try dsimp only at hSw); go_simp; try with_reducible rfl)
  try simp only [Act.put, List.setIfInBounds_toArray, List.set_cons_zero, List.set_cons_succ]
  refine wpAnyH_take (i := 3) (oi := { dst := some 25, op := Op.nilCheck (Operand.tmp 24), type := 0, pos := "disk.go:72", after := #[{ on := 2, ground := Ground.data }], guard := none }) (v := ?v3) rfl (by kernel_rfl) (by kernel_rfl) (by kernel_rfl) (fun _ _ _ h => h) (Or.inl ⟨by rfl, ?h3⟩) (by assumption) ?r3
  case h3 => (intro w hSw; (try dsimp only at hSw); go_simp; try with_reducible rfl)
  try simp only [Act.put, List.setIfInBounds_toArray, List.set_cons_zero, List.set_cons_succ]
  refine wpAnyH_take (i := 4) (oi := { dst := some 26, op := Op.fieldAddr 59 (Operand.tmp 25) 0, type := 0, pos := "disk.go:72", after := #[{ on := 3, ground := Ground.data }], guard := none }) (v := ?v4) rfl (by kernel_rfl) (by kernel_rfl) (by kernel_rfl) (fun _ _ _ h => h) (Or.inl ⟨by rfl, ?h4⟩) (by assumption) ?r4
  case h4 => (intro w hSw; (try dsimp only at hSw); go_simp; try with_reducible rfl)
  try simp only [Act.put, List.setIfInBounds_toArray, List.set_cons_zero, List.set_cons_succ]
  refine wpAnyH_take (i := 5) (oi := { dst := some 27, op := Op.load 3 (Operand.tmp 26), type := 3, pos := "disk.go:72", after := #[{ on := 4, ground := Ground.data }], guard := none }) (v := ?v5) rfl (by kernel_rfl) (by kernel_rfl) (by kernel_rfl) (fun _ _ _ h => h) (Or.inl ⟨by rfl, ?h5⟩) (by assumption) ?r5
  case h5 => (intro w hSw; (try dsimp only at hSw); go_simp; try with_reducible rfl)
  try simp only [Act.put, List.setIfInBounds_toArray, List.set_cons_zero, List.set_cons_succ]
  refine wpAnyH_take (i := 6) (oi := { dst := some 28, op := Op.move (Operand.tmp 0), type := 25, pos := "disk.go:72", after := #[], guard := none }) (v := ?v6) rfl (by kernel_rfl) (by kernel_rfl) (by kernel_rfl) (fun _ _ _ h => h) (Or.inl ⟨by rfl, ?h6⟩) (by assumption) ?r6
  case h6 => (intro w hSw; (try dsimp only at hSw); go_simp; try with_reducible rfl)
  try simp only [Act.put, List.setIfInBounds_toArray, List.set_cons_zero, List.set_cons_succ]
  refine wpAnyH_ready (rs := [7]) (by kernel_rfl) (by simp) ?_
  refine AllReadyH.cons (o := { dst := some 29, op := Op.call { callee := Callee.value (Operand.func 16), args := #[Operand.tmp 28], argTypes := #[25] }, type := 3, pos := "disk.go:72", after := #[{ on := 6, ground := Ground.data }], guard := none }) rfl (fun K hK => ?_) AllReadyH.nil
  go_simp
  refine (used_any base d S _ (holdD_in hHeld).dw).mono ?_
  rintro en w' ⟨rfl, b⟩
  have hst2 := holdD_all ((holdD_in hHeld).step b)
  clear b hHeld
  go_wp2_with fail
  refine hK.out _ _ (hst2) (fun hHeld => ?_)
  clear hK K
  try simp only [Act.put, List.setIfInBounds_toArray, List.set_cons_zero, List.set_cons_succ]
  refine wpAnyH_take (i := 8) (oi := { dst := some 30, op := Op.binOp BinOp.sub 3 (Operand.tmp 27) (Operand.tmp 29) 3, type := 3, pos := "disk.go:72", after := #[{ on := 5, ground := Ground.data }, { on := 7, ground := Ground.data }], guard := none }) (v := ?v8) rfl (by kernel_rfl) (by kernel_rfl) (by kernel_rfl) (fun _ _ _ h => h) (Or.inl ⟨by rfl, ?h8⟩) (by assumption) ?r8
  case h8 => (intro w hSw; (try dsimp only at hSw); go_simp; try with_reducible rfl)
  try simp only [Act.put, List.setIfInBounds_toArray, List.set_cons_zero, List.set_cons_succ]
  refine wpAnyH_take (i := 9) (oi := { dst := some 31, op := Op.binOp BinOp.gtr 3 (Operand.tmp 23) (Operand.tmp 30) 3, type := 4, pos := "disk.go:72", after := #[{ on := 1, ground := Ground.data }, { on := 8, ground := Ground.data }], guard := none }) (v := ?v9) rfl (by kernel_rfl) (by kernel_rfl) (by kernel_rfl) (fun _ _ _ h => h) (Or.inl ⟨by rfl, ?h9⟩) (by assumption) ?r9
  case h9 => (intro w hSw; (try dsimp only at hSw); go_simp; try with_reducible rfl)
  try simp only [Act.put, List.setIfInBounds_toArray, List.set_cons_zero, List.set_cons_succ]
  refine wpAnyH_take (i := 10) (oi := { dst := some 32, op := Op.move (Operand.tmp 31), type := 4, pos := "disk.go:72", after := #[{ on := 9, ground := Ground.data }, { on := 7, ground := Ground.chain }], guard := none }) (v := ?v10) rfl (by kernel_rfl) (by kernel_rfl) (by kernel_rfl) (fun _ _ _ h => h) (Or.inl ⟨by rfl, ?h10⟩) (by assumption) ?r10
  case h10 => (intro w hSw; (try dsimp only at hSw); go_simp; try with_reducible rfl)
  try simp only [Act.put, List.setIfInBounds_toArray, List.set_cons_zero, List.set_cons_succ]
  refine wpAnyH_take (i := 11) (oi := { dst := some 33, op := Op.move (Operand.tmp 8), type := 61, pos := "disk.go:72", after := #[{ on := 10, ground := Ground.guard }], guard := some (10, false) }) (v := undef) rfl (by kernel_rfl) (by kernel_rfl) (by kernel_rfl) (fun _ _ _ h => h) (Or.inr ⟨by rfl, rfl⟩) (by assumption) ?_
  try simp only [Act.put, List.setIfInBounds_toArray, List.set_cons_zero, List.set_cons_succ]
  refine wpAnyH_take (i := 12) (oi := { dst := some 34, op := Op.binOp BinOp.eql 61 (Operand.tmp 33) (Operand.const (Value.pointer none)) 61, type := 4, pos := "disk.go:72", after := #[{ on := 11, ground := Ground.data }, { on := 10, ground := Ground.guard }], guard := some (10, false) }) (v := undef) rfl (by kernel_rfl) (by kernel_rfl) (by kernel_rfl) (fun _ _ _ h => h) (Or.inr ⟨by rfl, rfl⟩) (by assumption) ?_
  try simp only [Act.put, List.setIfInBounds_toArray, List.set_cons_zero, List.set_cons_succ]
  refine wpAnyH_take (i := 13) (oi := { dst := some 35, op := Op.move (Operand.tmp 34), type := 4, pos := "disk.go:72", after := #[{ on := 12, ground := Ground.data }, { on := 10, ground := Ground.chain }, { on := 10, ground := Ground.guard }], guard := some (10, false) }) (v := undef) rfl (by kernel_rfl) (by kernel_rfl) (by kernel_rfl) (fun _ _ _ h => h) (Or.inr ⟨by rfl, rfl⟩) (by assumption) ?_
  try simp only [Act.put, List.setIfInBounds_toArray, List.set_cons_zero, List.set_cons_succ]
  refine wpAnyH_take (i := 14) (oi := { dst := some 36, op := Op.move (Operand.tmp 0), type := 25, pos := "disk.go:72", after := #[{ on := 13, ground := Ground.guard }], guard := some (13, true) }) (v := undef) rfl (by kernel_rfl) (by kernel_rfl) (by kernel_rfl) (fun _ _ _ h => h) (Or.inr ⟨by rfl, rfl⟩) (by assumption) ?_
  try simp only [Act.put, List.setIfInBounds_toArray, List.set_cons_zero, List.set_cons_succ]
  refine wpAnyH_take (i := 15) (oi := { dst := some 37, op := Op.nilCheck (Operand.tmp 36), type := 0, pos := "disk.go:72", after := #[{ on := 14, ground := Ground.data }, { on := 13, ground := Ground.guard }], guard := some (13, true) }) (v := undef) rfl (by kernel_rfl) (by kernel_rfl) (by kernel_rfl) (fun _ _ _ h => h) (Or.inr ⟨by rfl, rfl⟩) (by assumption) ?_
  try simp only [Act.put, List.setIfInBounds_toArray, List.set_cons_zero, List.set_cons_succ]
  refine wpAnyH_take (i := 16) (oi := { dst := some 38, op := Op.fieldAddr 59 (Operand.tmp 37) 1, type := 0, pos := "disk.go:72", after := #[{ on := 15, ground := Ground.data }, { on := 13, ground := Ground.guard }], guard := some (13, true) }) (v := undef) rfl (by kernel_rfl) (by kernel_rfl) (by kernel_rfl) (fun _ _ _ h => h) (Or.inr ⟨by rfl, rfl⟩) (by assumption) ?_
  try simp only [Act.put, List.setIfInBounds_toArray, List.set_cons_zero, List.set_cons_succ]
  refine wpAnyH_take (i := 17) (oi := { dst := some 39, op := Op.load 57 (Operand.tmp 38), type := 57, pos := "disk.go:72", after := #[{ on := 16, ground := Ground.data }, { on := 13, ground := Ground.guard }], guard := some (13, true) }) (v := undef) rfl (by kernel_rfl) (by kernel_rfl) (by kernel_rfl) (fun _ _ _ h => h) (Or.inr ⟨by rfl, rfl⟩) (by assumption) ?_
  try simp only [Act.put, List.setIfInBounds_toArray, List.set_cons_zero, List.set_cons_succ]
  refine wpAnyH_take (i := 18) (oi := { dst := some 40, op := Op.call { callee := Callee.builtin Builtin.len, args := #[Operand.tmp 39], argTypes := #[57] }, type := 3, pos := "disk.go:72", after := #[{ on := 17, ground := Ground.data }, { on := 13, ground := Ground.chain }, { on := 13, ground := Ground.guard }], guard := some (13, true) }) (v := undef) rfl (by kernel_rfl) (by kernel_rfl) (by kernel_rfl) (fun _ _ _ h => h) (Or.inr ⟨by rfl, rfl⟩) (by assumption) ?_
  try simp only [Act.put, List.setIfInBounds_toArray, List.set_cons_zero, List.set_cons_succ]
  refine wpAnyH_take (i := 19) (oi := { dst := some 41, op := Op.binOp BinOp.geq 3 (Operand.tmp 40) (Operand.const (Value.int IntKind.i64 4096)) 3, type := 4, pos := "disk.go:72", after := #[{ on := 18, ground := Ground.data }, { on := 13, ground := Ground.guard }], guard := some (13, true) }) (v := undef) rfl (by kernel_rfl) (by kernel_rfl) (by kernel_rfl) (fun _ _ _ h => h) (Or.inr ⟨by rfl, rfl⟩) (by assumption) ?_
  try simp only [Act.put, List.setIfInBounds_toArray, List.set_cons_zero, List.set_cons_succ]
  refine wpAnyH_take (i := 20) (oi := { dst := some 42, op := Op.pick (Operand.tmp 35) (Operand.tmp 41) (Operand.const (Value.bool false)), type := 4, pos := "disk.go:72", after := #[{ on := 13, ground := Ground.data }, { on := 19, ground := Ground.data }, { on := 10, ground := Ground.guard }], guard := some (10, false) }) (v := undef) rfl (by kernel_rfl) (by kernel_rfl) (by kernel_rfl) (fun _ _ _ h => h) (Or.inr ⟨by rfl, rfl⟩) (by assumption) ?_
  try simp only [Act.put, List.setIfInBounds_toArray, List.set_cons_zero, List.set_cons_succ]
  refine wpAnyH_take (i := 21) (oi := { dst := some 43, op := Op.pick (Operand.tmp 32) (Operand.const (Value.bool true)) (Operand.tmp 42), type := 4, pos := "disk.go:72", after := #[{ on := 10, ground := Ground.data }, { on := 20, ground := Ground.data }], guard := none }) (v := ?v21) rfl (by kernel_rfl) (by kernel_rfl) (by kernel_rfl) (fun _ _ _ h => h) (Or.inl ⟨by rfl, ?h21⟩) (by assumption) ?r21
  case h21 => (intro w hSw; (try dsimp only at hSw); go_simp; try with_reducible rfl)
  try simp only [Act.put, List.setIfInBounds_toArray, List.set_cons_zero, List.set_cons_succ]
  refine wpAnyH_done (by kernel_rfl) ?_ _
  clear hun
  obtain ⟨_, hst2⟩ := hst2
  go_wp2_with fail
  go_ret
  refine ⟨6, S, rfl, .inr (.inl ⟨H0.out, .inl HFT.out, rfl, rfl⟩), hst2.1, (Turn.of_below hst2.2.2).trans (Turn.of_below (B := []) hst2.2.1) (fun i hi => by simp at hi), fun i hi => .inl hi⟩
theorem len_run {w : World} {base d : Nat} {S : DS} (h : DW w base d S) (ty : TypeId) : (Builtin.len_ #[57] ty #[.map (some S.m)]).run Try.prog w = .ok (.int .i64 (S.E.length : Int)) w := by
  have := h.map.len Try.underlying57 ty
  rw [DL_size] at this
  simpa [enOf] using this
theorem nil_run (w : World) (m : Nat) : (binOp .eql 57 (.map (some m)) (.map none)).run Try.prog w = .ok (.bool false) w := run_eql_map_nil w _ _ _ _ Try.underlying57
def HoldL (base d : Nat) (S : DS) (w W w' : World) : Prop := ((w'.cell? ⟨d, 0, none⟩ = some (.int .i64 (S.room : Int)) ∧ w'.cell? ⟨d, 1, none⟩ = some (.map (some S.m))) ∧ (Builtin.len_ #[57] 3 #[.map (some S.m)]).run Try.prog w' = .ok (.int .i64 (S.E.length : Int)) w') ∧ HoldD base d S w W w'
theorem holdL_all {base d : Nat} {S : DS} {w W w1 : World} (h : HoldD base d S w W w1) : ((w1.cell? ⟨d, 0, none⟩ = some (.int .i64 (S.room : Int)) ∧ w1.cell? ⟨d, 1, none⟩ = some (.map (some S.m))) ∧ (Builtin.len_ #[57] 3 #[.map (some S.m)]).run Try.prog w1 = .ok (.int .i64 (S.E.length : Int)) w1) ∧ HoldD base d S w W w1 :=
  ⟨⟨⟨h.1.cell.cell 0, h.1.cell.cell 1⟩, len_run h.1 _⟩, h⟩
theorem holdL_in {base d : Nat} {S : DS} {w W w1 : World} (h : ((w1.cell? ⟨d, 0, none⟩ = some (.int .i64 (S.room : Int)) ∧ w1.cell? ⟨d, 1, none⟩ = some (.map (some S.m))) ∧ (Builtin.len_ #[57] 3 #[.map (some S.m)]).run Try.prog w1 = .ok (.int .i64 (S.E.length : Int)) w1) ∧ HoldD base d S w W w1) : HoldD base d S w W w1 := h.2
/-- Bytes stay where a map turns. -/
theorem bs_map {w w' : World} {m b : Nat} {A : Option Addr} {nb : List UInt8} {es : Array MapEntry} {clock : Nat} (h : Bs w w.heap.size A m nb) (hm : w.heap[b]? = some (.map es clock)) (ht : Turn [b] w w') : Bs w' w'.heap.size A m nb := by
  refine ⟨h.1, fun hpos => ?_⟩
  obtain ⟨g, off, hA, hg, hc⟩ := h.2 hpos
  have hne : g ≠ b := by
    rintro rfl
    obtain ⟨u, hu⟩ : ∃ u, (nb.map bv)[0]? = some u := by
      cases h0 : (nb.map bv)[0]? with
      | some u => exact ⟨u, rfl⟩
      | none => rw [List.getElem?_eq_none_iff] at h0; have := Bs.len h; simp at h0; subst h0; simp at this; omega
    have h1 := hc 0 u hu
    unfold World.cell? at h1
    simp only [hm] at h1
    cases h1
  refine ⟨g, off, hA, Nat.lt_of_lt_of_le hg ht.size, fun j u hu => ?_⟩
  rw [← hc j u hu]
  unfold World.cell?
  simp only [ht.block g hg (by simpa using hne)]
theorem used_ins (S : DS) (e : FE) : (insF S e).used = S.used + e.b.length := by
  unfold DS.used insF
  have := ((insE_perm e S.E).map fun e => e.b.length).sum_nat
  simp at this ⊢
  omega
set_option maxRecDepth 100000 in
set_option maxHeartbeats 3200000 in
theorem append_new (base d : Nat) (S : DS) (w : World) (h : DW w base d S) (s nb : List UInt8) (hs : s.length ≤ 140737488351232) (A : Option Addr) (m c : Nat) (hr : Bs w w.heap.size A m nb) (hm : m ≤ 1073741824)
    (h0 : mayE S [s] = 0) (he : getE s S.E = none) (hfit : S.used + nb.length ≤ S.room) (hfew : S.E.length < 4096) :
    Calls Try.prog 11 #[.pointer (some ⟨d, 0, none⟩), .string (str s), .slice A m c] w (RetD base d S (AppR S s nb) w) := by
  generalize hW : w.alloc (.cells #[.string (str s)] 9) = W
  have hb0 : Below w.heap.size w W := by rw [← hW]; exact (Below.refl _ _).alloc (Nat.le_refl _) _
  have hW1 : DW W base d S := h.below hb0
  have hrd : Rd W W.heap.size 1 (some ⟨w.heap.size, 0, none⟩) 1 ([s].map sv) := by rw [← hW]; simpa [sv] using Rd.one_new w (.string (str s)) 9
  have hmay := may_any base d S W hW1 (some ⟨w.heap.size, 0, none⟩) 1 1 [s] hrd (by omega) (by intro x hx; simp at hx; subst hx; exact hs)
  rw [h0] at hmay
  have HMAY := Lib.hid hmay
  have hlook := look_run hW1 s hs
  rw [he] at hlook
  have hlk : (Instr.lookup 57 (.map (some S.m)) (.string (str s)) false).run Try.prog W = .ok (.pointer none) W := hlook
  have hml : Hid (nb.length = m) := hr.len
  have hro := h.room
  have hdec : ¬ ((S.room : Int) - (S.used : Int) < (m : Int)) := by have := hml.out; omega
  have hcc := hW1.cell
  unfold dcells at hcc
  have c0 : W.cell? ⟨d, 0, none⟩ = some (.int .i64 (S.room : Int)) := hcc.cell 0
  have c1 : W.cell? ⟨d, 1, none⟩ = some (.map (some S.m)) := hcc.cell 1
  have H1 := Lib.hid hW1
  have HR := Lib.hid ((hr.below hb0).more hb0.size)
  have HB0 := Lib.hid hb0
  have H0 := Lib.hid h0
  have HE := Lib.hid he
  have HFT := Lib.hid hfit
  have HFW := Lib.hid hfew
  clear h hW1 hcc hmay hlook hr hb0 h0 he hrd hfit
  go_enter Try.func11, Try.ntmps11
  go_wp2_with fail
  refine (unhide3 HMAY).mono ?_
  rintro en w1 ⟨rfl, rfl⟩
  go_wp2_with fail
  have hdec2 : decide (((S.room : Int) - (S.used : Int)) < (m : Int)) = false := decide_eq_false (by omega)
  have hdec3 : decide ((4096 : Int) ≤ (S.E.length : Int)) = false := decide_eq_false (by omega)
  have hwrap : IntKind.i64.wrap ((S.room : Int) - (S.used : Int)) = (S.room : Int) - (S.used : Int) := IntWalk.i64_in _ ⟨by omega, by omega⟩
  have HS1 : Hid (HoldD base d S w W W.drew) := HoldD.drew ⟨H1.out, Below.refl _ _, HB0.out⟩
  clear hfew
  refine wp_region_held_drew (S := fun w' => ((w'.cell? ⟨d, 0, none⟩ = some (.int .i64 (S.room : Int)) ∧ w'.cell? ⟨d, 1, none⟩ = some (.map (some S.m))) ∧ (Builtin.len_ #[57] 3 #[.map (some S.m)]).run Try.prog w' = .ok (.int .i64 (S.E.length : Int)) w') ∧ HoldD base d S w W w') (by kernel_rfl) (holdL_all HS1.out) (fun hHeld => ?_)
  refine wpAnyH_take (i := 0) (oi := { dst := some 22, op := Op.move (Operand.tmp 2), type := 23, pos := "disk.go:72", after := #[], guard := none }) (v := ?v0) rfl (by kernel_rfl) (by kernel_rfl) (by kernel_rfl) (fun _ _ _ h => h) (Or.inl ⟨by rfl, ?h0⟩) (by assumption) ?r0
  case h0 => (intro w hSw; (try dsimp only at hSw); go_simp; try with_reducible rfl)
  try simp only [Act.put, List.setIfInBounds_toArray, List.set_cons_zero, List.set_cons_succ]
  refine wpAnyH_take (i := 1) (oi := { dst := some 23, op := Op.call { callee := Callee.builtin Builtin.len, args := #[Operand.tmp 22], argTypes := #[23] }, type := 3, pos := "disk.go:72", after := #[{ on := 0, ground := Ground.data }], guard := none }) (v := ?v1) rfl (by kernel_rfl) (by kernel_rfl) (by kernel_rfl) (fun _ _ _ h => h) (Or.inl ⟨by rfl, ?h1⟩) (by assumption) ?r1
  case h1 => (intro w hSw; (try dsimp only at hSw); go_simp; try with_reducible rfl)
  try simp only [Act.put, List.setIfInBounds_toArray, List.set_cons_zero, List.set_cons_succ]
  refine wpAnyH_take (i := 2) (oi := { dst := some 24, op := Op.move (Operand.tmp 0), type := 25, pos := "disk.go:72", after := #[], guard := none }) (v := ?v2) rfl (by kernel_rfl) (by kernel_rfl) (by kernel_rfl) (fun _ _ _ h => h) (Or.inl ⟨by rfl, ?h2⟩) (by assumption) ?r2
  case h2 => (intro w hSw; (try dsimp only at hSw); go_simp; try with_reducible rfl)
  try simp only [Act.put, List.setIfInBounds_toArray, List.set_cons_zero, List.set_cons_succ]
  refine wpAnyH_take (i := 3) (oi := { dst := some 25, op := Op.nilCheck (Operand.tmp 24), type := 0, pos := "disk.go:72", after := #[{ on := 2, ground := Ground.data }], guard := none }) (v := ?v3) rfl (by kernel_rfl) (by kernel_rfl) (by kernel_rfl) (fun _ _ _ h => h) (Or.inl ⟨by rfl, ?h3⟩) (by assumption) ?r3
  case h3 => (intro w hSw; (try dsimp only at hSw); go_simp; try with_reducible rfl)
  try simp only [Act.put, List.setIfInBounds_toArray, List.set_cons_zero, List.set_cons_succ]
  refine wpAnyH_take (i := 4) (oi := { dst := some 26, op := Op.fieldAddr 59 (Operand.tmp 25) 0, type := 0, pos := "disk.go:72", after := #[{ on := 3, ground := Ground.data }], guard := none }) (v := ?v4) rfl (by kernel_rfl) (by kernel_rfl) (by kernel_rfl) (fun _ _ _ h => h) (Or.inl ⟨by rfl, ?h4⟩) (by assumption) ?r4
  case h4 => (intro w hSw; (try dsimp only at hSw); go_simp; try with_reducible rfl)
  try simp only [Act.put, List.setIfInBounds_toArray, List.set_cons_zero, List.set_cons_succ]
  refine wpAnyH_take (i := 5) (oi := { dst := some 27, op := Op.load 3 (Operand.tmp 26), type := 3, pos := "disk.go:72", after := #[{ on := 4, ground := Ground.data }], guard := none }) (v := ?v5) rfl (by kernel_rfl) (by kernel_rfl) (by kernel_rfl) (fun _ _ _ h => h) (Or.inl ⟨by rfl, ?h5⟩) (by assumption) ?r5
  case h5 => (intro w hSw; (try dsimp only at hSw); go_simp; try with_reducible rfl)
  try simp only [Act.put, List.setIfInBounds_toArray, List.set_cons_zero, List.set_cons_succ]
  refine wpAnyH_take (i := 6) (oi := { dst := some 28, op := Op.move (Operand.tmp 0), type := 25, pos := "disk.go:72", after := #[], guard := none }) (v := ?v6) rfl (by kernel_rfl) (by kernel_rfl) (by kernel_rfl) (fun _ _ _ h => h) (Or.inl ⟨by rfl, ?h6⟩) (by assumption) ?r6
  case h6 => (intro w hSw; (try dsimp only at hSw); go_simp; try with_reducible rfl)
  try simp only [Act.put, List.setIfInBounds_toArray, List.set_cons_zero, List.set_cons_succ]
  refine wpAnyH_ready (rs := [7]) (by kernel_rfl) (by simp) ?_
  refine AllReadyH.cons (o := { dst := some 29, op := Op.call { callee := Callee.value (Operand.func 16), args := #[Operand.tmp 28], argTypes := #[25] }, type := 3, pos := "disk.go:72", after := #[{ on := 6, ground := Ground.data }], guard := none }) rfl (fun K hK => ?_) AllReadyH.nil
  go_simp
  refine (used_any base d S _ (holdL_in hHeld).dw).mono ?_
  rintro en w' ⟨rfl, b⟩
  have hst2 := holdL_all ((holdL_in hHeld).step b)
  clear b hHeld
  go_wp2_with fail
  refine hK.out _ _ (hst2) (fun hHeld => ?_)
  clear hK K
  try simp only [Act.put, List.setIfInBounds_toArray, List.set_cons_zero, List.set_cons_succ]
  refine wpAnyH_take (i := 8) (oi := { dst := some 30, op := Op.binOp BinOp.sub 3 (Operand.tmp 27) (Operand.tmp 29) 3, type := 3, pos := "disk.go:72", after := #[{ on := 5, ground := Ground.data }, { on := 7, ground := Ground.data }], guard := none }) (v := ?v8) rfl (by kernel_rfl) (by kernel_rfl) (by kernel_rfl) (fun _ _ _ h => h) (Or.inl ⟨by rfl, ?h8⟩) (by assumption) ?r8
  case h8 => (intro w hSw; (try dsimp only at hSw); go_simp; try with_reducible rfl)
  try simp only [Act.put, List.setIfInBounds_toArray, List.set_cons_zero, List.set_cons_succ]
  refine wpAnyH_take (i := 9) (oi := { dst := some 31, op := Op.binOp BinOp.gtr 3 (Operand.tmp 23) (Operand.tmp 30) 3, type := 4, pos := "disk.go:72", after := #[{ on := 1, ground := Ground.data }, { on := 8, ground := Ground.data }], guard := none }) (v := ?v9) rfl (by kernel_rfl) (by kernel_rfl) (by kernel_rfl) (fun _ _ _ h => h) (Or.inl ⟨by rfl, ?h9⟩) (by assumption) ?r9
  case h9 => (intro w hSw; (try dsimp only at hSw); go_simp; try with_reducible rfl)
  try simp only [Act.put, List.setIfInBounds_toArray, List.set_cons_zero, List.set_cons_succ]
  refine wpAnyH_take (i := 10) (oi := { dst := some 32, op := Op.move (Operand.tmp 31), type := 4, pos := "disk.go:72", after := #[{ on := 9, ground := Ground.data }, { on := 7, ground := Ground.chain }], guard := none }) (v := ?v10) rfl (by kernel_rfl) (by kernel_rfl) (by kernel_rfl) (fun _ _ _ h => h) (Or.inl ⟨by rfl, ?h10⟩) (by assumption) ?r10
  case h10 => (intro w hSw; (try dsimp only at hSw); go_simp; try with_reducible rfl)
  try simp only [Act.put, List.setIfInBounds_toArray, List.set_cons_zero, List.set_cons_succ]
  refine wpAnyH_take (i := 11) (oi := { dst := some 33, op := Op.move (Operand.tmp 8), type := 61, pos := "disk.go:72", after := #[{ on := 10, ground := Ground.guard }], guard := some (10, false) }) (v := ?v11) rfl (by kernel_rfl) (by kernel_rfl) (by kernel_rfl) (fun _ _ _ h => h) (Or.inl ⟨by rfl, ?h11⟩) (by assumption) ?r11
  case h11 => (intro w hSw; (try dsimp only at hSw); go_simp; try with_reducible rfl)
  try simp only [Act.put, List.setIfInBounds_toArray, List.set_cons_zero, List.set_cons_succ]
  refine wpAnyH_take (i := 12) (oi := { dst := some 34, op := Op.binOp BinOp.eql 61 (Operand.tmp 33) (Operand.const (Value.pointer none)) 61, type := 4, pos := "disk.go:72", after := #[{ on := 11, ground := Ground.data }, { on := 10, ground := Ground.guard }], guard := some (10, false) }) (v := ?v12) rfl (by kernel_rfl) (by kernel_rfl) (by kernel_rfl) (fun _ _ _ h => h) (Or.inl ⟨by rfl, ?h12⟩) (by assumption) ?r12
  case h12 => (intro w hSw; (try dsimp only at hSw); go_simp; try with_reducible rfl)
  try simp only [Act.put, List.setIfInBounds_toArray, List.set_cons_zero, List.set_cons_succ]
  refine wpAnyH_take (i := 13) (oi := { dst := some 35, op := Op.move (Operand.tmp 34), type := 4, pos := "disk.go:72", after := #[{ on := 12, ground := Ground.data }, { on := 10, ground := Ground.chain }, { on := 10, ground := Ground.guard }], guard := some (10, false) }) (v := ?v13) rfl (by kernel_rfl) (by kernel_rfl) (by kernel_rfl) (fun _ _ _ h => h) (Or.inl ⟨by rfl, ?h13⟩) (by assumption) ?r13
  case h13 => (intro w hSw; (try dsimp only at hSw); go_simp; try with_reducible rfl)
  try simp only [Act.put, List.setIfInBounds_toArray, List.set_cons_zero, List.set_cons_succ]
  refine wpAnyH_take (i := 14) (oi := { dst := some 36, op := Op.move (Operand.tmp 0), type := 25, pos := "disk.go:72", after := #[{ on := 13, ground := Ground.guard }], guard := some (13, true) }) (v := ?v14) rfl (by kernel_rfl) (by kernel_rfl) (by kernel_rfl) (fun _ _ _ h => h) (Or.inl ⟨by rfl, ?h14⟩) (by assumption) ?r14
  case h14 => (intro w hSw; (try dsimp only at hSw); go_simp; try with_reducible rfl)
  try simp only [Act.put, List.setIfInBounds_toArray, List.set_cons_zero, List.set_cons_succ]
  refine wpAnyH_take (i := 15) (oi := { dst := some 37, op := Op.nilCheck (Operand.tmp 36), type := 0, pos := "disk.go:72", after := #[{ on := 14, ground := Ground.data }, { on := 13, ground := Ground.guard }], guard := some (13, true) }) (v := ?v15) rfl (by kernel_rfl) (by kernel_rfl) (by kernel_rfl) (fun _ _ _ h => h) (Or.inl ⟨by rfl, ?h15⟩) (by assumption) ?r15
  case h15 => (intro w hSw; (try dsimp only at hSw); go_simp; try with_reducible rfl)
  try simp only [Act.put, List.setIfInBounds_toArray, List.set_cons_zero, List.set_cons_succ]
  refine wpAnyH_take (i := 16) (oi := { dst := some 38, op := Op.fieldAddr 59 (Operand.tmp 37) 1, type := 0, pos := "disk.go:72", after := #[{ on := 15, ground := Ground.data }, { on := 13, ground := Ground.guard }], guard := some (13, true) }) (v := ?v16) rfl (by kernel_rfl) (by kernel_rfl) (by kernel_rfl) (fun _ _ _ h => h) (Or.inl ⟨by rfl, ?h16⟩) (by assumption) ?r16
  case h16 => (intro w hSw; (try dsimp only at hSw); go_simp; try with_reducible rfl)
  try simp only [Act.put, List.setIfInBounds_toArray, List.set_cons_zero, List.set_cons_succ]
  refine wpAnyH_take (i := 17) (oi := { dst := some 39, op := Op.load 57 (Operand.tmp 38), type := 57, pos := "disk.go:72", after := #[{ on := 16, ground := Ground.data }, { on := 13, ground := Ground.guard }], guard := some (13, true) }) (v := ?v17) rfl (by kernel_rfl) (by kernel_rfl) (by kernel_rfl) (fun _ _ _ h => h) (Or.inl ⟨by rfl, ?h17⟩) (by assumption) ?r17
  case h17 => (intro w hSw; (try dsimp only at hSw); go_simp; try with_reducible rfl)
  try simp only [Act.put, List.setIfInBounds_toArray, List.set_cons_zero, List.set_cons_succ]
  refine wpAnyH_take (i := 18) (oi := { dst := some 40, op := Op.call { callee := Callee.builtin Builtin.len, args := #[Operand.tmp 39], argTypes := #[57] }, type := 3, pos := "disk.go:72", after := #[{ on := 17, ground := Ground.data }, { on := 13, ground := Ground.chain }, { on := 13, ground := Ground.guard }], guard := some (13, true) }) (v := ?v18) rfl (by kernel_rfl) (by kernel_rfl) (by kernel_rfl) (fun _ _ _ h => h) (Or.inl ⟨by rfl, ?h18⟩) (by assumption) ?r18
  case h18 => (intro w hSw; (try dsimp only at hSw); go_simp; try with_reducible rfl)
  try simp only [Act.put, List.setIfInBounds_toArray, List.set_cons_zero, List.set_cons_succ]
  refine wpAnyH_take (i := 19) (oi := { dst := some 41, op := Op.binOp BinOp.geq 3 (Operand.tmp 40) (Operand.const (Value.int IntKind.i64 4096)) 3, type := 4, pos := "disk.go:72", after := #[{ on := 18, ground := Ground.data }, { on := 13, ground := Ground.guard }], guard := some (13, true) }) (v := ?v19) rfl (by kernel_rfl) (by kernel_rfl) (by kernel_rfl) (fun _ _ _ h => h) (Or.inl ⟨by rfl, ?h19⟩) (by assumption) ?r19
  case h19 => (intro w hSw; (try dsimp only at hSw); go_simp; try with_reducible rfl)
  try simp only [Act.put, List.setIfInBounds_toArray, List.set_cons_zero, List.set_cons_succ]
  refine wpAnyH_take (i := 20) (oi := { dst := some 42, op := Op.pick (Operand.tmp 35) (Operand.tmp 41) (Operand.const (Value.bool false)), type := 4, pos := "disk.go:72", after := #[{ on := 13, ground := Ground.data }, { on := 19, ground := Ground.data }, { on := 10, ground := Ground.guard }], guard := some (10, false) }) (v := ?v20) rfl (by kernel_rfl) (by kernel_rfl) (by kernel_rfl) (fun _ _ _ h => h) (Or.inl ⟨by rfl, ?h20⟩) (by assumption) ?r20
  case h20 => (intro w hSw; (try dsimp only at hSw); go_simp; try with_reducible rfl)
  try simp only [Act.put, List.setIfInBounds_toArray, List.set_cons_zero, List.set_cons_succ]
  refine wpAnyH_take (i := 21) (oi := { dst := some 43, op := Op.pick (Operand.tmp 32) (Operand.const (Value.bool true)) (Operand.tmp 42), type := 4, pos := "disk.go:72", after := #[{ on := 10, ground := Ground.data }, { on := 20, ground := Ground.data }], guard := none }) (v := ?v21) rfl (by kernel_rfl) (by kernel_rfl) (by kernel_rfl) (fun _ _ _ h => h) (Or.inl ⟨by rfl, ?h21⟩) (by assumption) ?r21
  case h21 => (intro w hSw; (try dsimp only at hSw); go_simp; try with_reducible rfl)
  try simp only [Act.put, List.setIfInBounds_toArray, List.set_cons_zero, List.set_cons_succ]
  refine wpAnyH_done (by kernel_rfl) ?_ _
  obtain ⟨_, hst2⟩ := hst2
  obtain ⟨W2, hW2⟩ : ∃ W2, w'.alloc (.cells #[.slice none 0 0, .int .u32 0] 64) = W2 := ⟨_, rfl⟩
  have hb2 : Below w'.heap.size w' W2 := by rw [← hW2]; exact (Below.refl _ _).alloc (Nat.le_refl _) _
  have hbk : Blk W2 w'.heap.size #[.slice none 0 0, .int .u32 0] 64 := by rw [← hW2]; exact Blk.new _ _ _
  have hd2 : DW W2 base d S := hst2.1.below hb2
  obtain ⟨c2, c3⟩ : W2.cell? ⟨d, 0, none⟩ = some (.int .i64 (S.room : Int)) ∧ W2.cell? ⟨d, 1, none⟩ = some (.map (some S.m)) := ⟨hd2.cell.cell 0, hd2.cell.cell 1⟩
  have hnil := nil_run W2 S.m
  have HST := Lib.hid hst2
  have HB2 := Lib.hid hb2
  have HD2 := Lib.hid hd2
  have HBK := Lib.hid hbk
  have HKS := Lib.hid (key_str s hs)
  obtain ⟨w3, hupd, hown3, hgrow3⟩ := hd2.map.update (Go.Maps.string_keyed Try.underlying9) Try.underlying57 (by have := HFW.out; simp only [maxLen]; omega) (key_str s hs) (ptrR_mk (some w'.heap.size))
  have hupd2 : (Instr.mapUpdate 57 (.map (some S.m)) (.string (str s)) (.pointer (some ⟨w'.heap.size, 0, none⟩))).run Try.prog W2 = .ok () w3 := hupd
  have hb3 : Blk w3 w'.heap.size #[.slice none 0 0, .int .u32 0] 64 := hbk.grown hgrow3 (by intro e; injection e with e; have := (hst2.1.ge S.m (bl_m d S)).2; omega)
  have y0 : w3.cell? ⟨w'.heap.size, 0, none⟩ = some (.slice none 0 0) := hb3.cell 0
  have yf := hb3.free 0
  have ht3 : Turn [S.m] w' w3 := (Turn.of_below hb2).trans (Turn.of_grown hgrow3 (B := [S.m]) (fun i e => by injection e with e; exact .inl (by simp [e]))) (fun i hi => .inl hi)
  have hif := hst2.1.ins_file (w1 := w') HE.out (Nat.le_refl _) ht3 hb3 hown3 HFW.out
  have HR3 : Hid (Bs w3 w3.heap.size A m nb) := by obtain ⟨es, clock, hm9, _⟩ := hst2.1.map; exact bs_map ((HR.out.below hst2.2.1).more hst2.2.1.size) hm9 ht3
  have HB3 := Lib.hid hb3
  have HT3 := Lib.hid ht3
  have HIF := Lib.hid hif
  clear hst2 hb2 hd2 hbk hlk hdec hdec2 hdec3 hwrap hupd hown3 hgrow3 hb3 ht3 hif
  have HST2 : Hid (HoldD base d S w W w') := HST
  have hfree3 : Hid (Row w3 (.slice none 0 0) []) := Row.nil _
  go_wp2_with (first
    | (at_builtin
       refine wp_append_row rfl (.tmp 67) (.tmp 68) rfl (.slice none 0 0) [] rfl hfree3.out w3.heap.size A m c nb rfl HR3.out (by simp; omega) ?_
       intro v4 w4 r4 g4 o4
       obtain ⟨A4, c4, hv4, _, _⟩ := r4.form
       obtain ⟨n4, hn4⟩ : ∃ n4, n4 = (([] : List UInt8) ++ nb).length := ⟨_, rfl⟩
       rw [← hn4] at hv4
       subst hv4
       have HN4 := Lib.hid hn4
       clear hn4
       have hb4 : Blk w4 w'.heap.size #[.slice none 0 0, .int .u32 0] 64 := HB3.out.grown g4 (by simp [Value.ownBlock])
       have y4 : w4.cell? ⟨w'.heap.size, 0, none⟩ = some (.slice none 0 0) := hb4.cell 0
       have yf4 := hb4.free 0
       have HB4 := Lib.hid hb4
       have HR4 := Lib.hid r4
       have HG4 := Lib.hid g4
       have HO4 := Lib.hid o4
       clear hb4 r4 g4 o4 y0 yf))
  obtain ⟨e1, he1⟩ : ∃ e1 : FE, e1 = ⟨s, w'.heap.size, .slice none 0 0, [], 0⟩ := ⟨_, rfl⟩
  have HE1 : Hid (getE s (insF S ⟨s, w'.heap.size, .slice none 0 0, [], 0⟩).E = some e1) := by
    have := getE_of_mem (E := (insF S ⟨s, w'.heap.size, .slice none 0 0, [], 0⟩).E) (e := ⟨s, w'.heap.size, .slice none 0 0, [], 0⟩) HIF.out.1.nd ((insE_perm _ _).mem_iff.2 List.mem_cons_self)
    rw [he1]; exact this
  clear y4 yf4 hupd2 c0 c1
  obtain ⟨W4, hW4⟩ : ∃ W4, w4.setCell ⟨w'.heap.size, 0, none⟩ (.slice A4 n4 c4) = W4 := ⟨_, rfl⟩
  rw [hW4]
  have ht : Turn e1.bl w3 W4 := by
    rw [← hW4, he1]
    exact (Turn.of_grown HG4.out (fun i hi => by simp [Value.ownBlock] at hi)).trans (Turn.set (B := [w'.heap.size]) (.inl (by simp))) (fun i hi => .inl (by simpa [FE.bl, Value.ownBlock] using hi))
  have hlt : w'.heap.size < w3.heap.size := HB3.out.lt
  have hno : (Value.slice A4 n4 c4).ownBlock ≠ some w'.heap.size := by
    rcases HO4.out with h | h
    · rw [h]; simp [Value.ownBlock]
    · rw [h]; intro h2; injection h2 with h2; omega
  have hfw : FW W4 ⟨s, w'.heap.size, .slice A4 n4 c4, nb, 0⟩ := by
    rw [← hW4]
    refine ⟨Blk.set HB4.out 0 _, ?_, Nat.zero_le _⟩
    have := HR4.out
    rw [List.nil_append] at this
    exact this.keep fun i hi => Below.heap_setCell _ _ _ _ (fun h => hno (by rw [hi, h]))
  have hus : (insF S ⟨s, w'.heap.size, .slice none 0 0, [], 0⟩).used = S.used := used_ins S _
  have hsf := HIF.out.1.set_file (e' := ⟨s, w'.heap.size, .slice A4 n4 c4, nb, 0⟩) HE1.out (by rw [he1]) (by rw [he1]) ht hfw
    (by rcases HO4.out with h | h; exact .inr (.inr (by rw [h]; rfl)); exact .inr (.inl ⟨_, h, Nat.le_refl _⟩)) (by rw [hus, he1]; show S.used + nb.length ≤ S.room + 0; exact HFT.out)
  have hbn := burns_any base d _ W4 hsf.1 (may_zero H0.out)
  have HBN := Lib.hid hbn
  have HSF := Lib.hid hsf
  have HT := Lib.hid ht
  clear hbn hsf ht hfw hno hW4 HB3 HR3 HB4 HR4 HG4 HO4
  refine (unhide3 HBN).mono ?_
  rintro en w5 ⟨rfl, d5, t5⟩
  go_wp2_with fail
  go_ret
  have hw0 : w.heap.size ≤ w'.heap.size := Nat.le_trans HST.out.2.2.size HST.out.2.1.size
  refine ⟨0, _, rfl, .inr (.inr ⟨H0.out, HFT.out, rfl, .inr ⟨HE.out, HFW.out, w'.heap.size, _, rfl⟩⟩), d5, ?_, ?_⟩
  · have t1 : Turn (S.bl d) w w' := (Turn.of_below HST.out.2.2).trans (Turn.of_below (B := []) HST.out.2.1) (fun i hi => by simp at hi)
    have t2 : Turn (S.bl d) w w3 := t1.trans HT3.out (fun i hi => .inl (by simp at hi; subst hi; exact bl_m d S))
    have t3 : Turn (S.bl d) w W4 := t2.trans HT.out (fun i hi => by rw [he1] at hi; simp [FE.bl, Value.ownBlock] at hi; subst hi; exact .inr hw0)
    exact t3.trans t5 (fun i hi => .inl (by simp at hi; subst hi; exact bl_d _ _))
  · intro i hi
    rw [burnS_bl] at hi
    rcases HSF.out.2 i hi with h | h
    · rcases HIF.out.2 i h with h2 | h2
      · exact .inl h2
      · exact .inr (by omega)
    · exact .inr (by omega)
theorem append_any (base d : Nat) (S : DS) (w : World) (h : DW w base d S) (s nb : List UInt8) (hs : s.length ≤ 140737488351232) (A : Option Addr) (m c : Nat) (hr : Bs w w.heap.size A m nb) (hm : m ≤ 1073741824) (hfew : S.E.length < 4096) :
    Calls Try.prog 11 #[.pointer (some ⟨d, 0, none⟩), .string (str s), .slice A m c] w (RetD base d S (AppR S s nb) w) := by
  rcases Nat.eq_zero_or_pos (mayE S [s]) with h0 | h0
  · by_cases hfit : S.room < S.used + nb.length
    · exact append_full base d S w h s nb hs A m c hr h0 hfit
    · rcases he : getE s S.E with _ | e
      · exact append_new base d S w h s nb hs A m c hr hm h0 he (by omega) hfew
      · exact append_old base d S w h s nb hs A m c hr hm h0 e he (by omega)
  · exact append_bad base d S w h s nb hs A m c _ rfl (by simp; omega)
end Go.Proofs.Ytcoimlenejffpaa

/- ref disk: Sync. -/
import Derived.Test.YtcoimlenejffpaaRdiskB
import Derived.Deep.RegionHeld3
namespace Go.Proofs.Ytcoimlenejffpaa
set_option linter.all false
open Go.RowKit
theorem bl_set {r i : Nat} {X : RDS} {f f' : RFE} (hf : X.L[i]? = some f) : ∀ k ∈ ({ X with L := X.L.set i f' } : RDS).bl r, k ∈ X.bl r ∨ f'.v.ownBlock = some k := by
  intro k hk
  have hv : ({ X with L := X.L.set i f' } : RDS).v = X.v := by unfold RDS.v; simp only [List.length_set]
  simp only [RDS.bl, List.mem_cons, List.mem_append, List.mem_flatMap] at hk ⊢
  rw [hv] at hk
  rcases hk with h1 | h1 | ⟨x, h1, h2⟩
  · exact .inl (.inl h1)
  · exact .inl (.inr (.inl h1))
  · rcases List.mem_or_eq_of_mem_set h1 with h3 | h3
    · exact .inl (.inr (.inr ⟨x, h3, h2⟩))
    · subst h3; exact .inr (by simpa [RFE.bl] using h2)
def RSyncR (X : RDS) (s : List UInt8) (code : Nat) (X' : RDS) : Prop :=
  (rmayE X.left [s] ≠ 0 ∧ code = rmayE X.left [s] ∧ X' = X) ∨ (rmayE X.left [s] = 0 ∧ spotB s X.L = false ∧ code = 7 ∧ X' = X) ∨
    (rmayE X.left [s] = 0 ∧ spotB s X.L = true ∧ ∃ i f, spotI s X.L = i ∧ X.L[i]? = some f ∧ code = 0 ∧ X' = didX { X with L := X.L.set i ⟨f.s, f.A, f.c, f.b, f.b.length⟩ })
set_option maxRecDepth 100000 in
set_option maxHeartbeats 3200000 in
theorem rsync_bad (base r : Nat) (X : RDS) (w : World) (h : RW w base r X) (s : List UInt8) (hs : s.length ≤ 140737488351232) (e0 : Nat) (h0 : rmayE X.left [s] = e0) (he0 : ((e0 : Int) != 0) = true) :
    Calls Try.prog 39 #[.pointer (some ⟨r, 0, none⟩), .string (str s)] w (RetX base r X (RSyncR X s) w) := by
  generalize hW : w.alloc (.cells #[.string (str s)] 9) = W
  have hb0 : Below w.heap.size w W := by rw [← hW]; exact (Below.refl _ _).alloc (Nat.le_refl _) _
  have hW1 : RW W base r X := h.below hb0
  have hrd : Rd W W.heap.size 1 (some ⟨w.heap.size, 0, none⟩) 1 ([s].map sv) := by rw [← hW]; simpa [sv] using Rd.lit_new w ([s].map sv) 9
  have hmay := rmay_any base r X W hW1 (some ⟨w.heap.size, 0, none⟩) 1 1 [s] hrd (by omega) (by intro x hx; simp at hx; subst hx; exact hs)
  rw [h0] at hmay
  have HMAY := Lib.hid hmay
  have H1 := Lib.hid hW1
  have HB0 := Lib.hid hb0
  have hz : e0 ≠ 0 := by intro e; subst e; simp at he0
  have H0 := Lib.hid h0
  have HZ := Lib.hid hz
  clear h hW1 hmay hb0 h0 hrd hz
  go_enter Try.func39, Try.ntmps39
  go_wp2_with fail
  refine (unhide3 HMAY).mono ?_
  rintro en w1 ⟨rfl, rfl⟩
  go_wp2_with fail
  go_ret
  refine ⟨e0, X, rfl, .inl ⟨by rw [H0.out]; exact HZ.out, H0.out.symm, rfl⟩, H1.out, Turn.of_below HB0.out, fun i hi => .inl hi⟩
set_option maxRecDepth 100000 in
set_option maxHeartbeats 3200000 in
theorem rsync_none (base r : Nat) (X : RDS) (w : World) (h : RW w base r X) (s : List UInt8) (hs : s.length ≤ 140737488351232) (h0 : rmayE X.left [s] = 0) (he : spotB s X.L = false) :
    Calls Try.prog 39 #[.pointer (some ⟨r, 0, none⟩), .string (str s)] w (RetX base r X (RSyncR X s) w) := by
  generalize hW : w.alloc (.cells #[.string (str s)] 9) = W
  have hb0 : Below w.heap.size w W := by rw [← hW]; exact (Below.refl _ _).alloc (Nat.le_refl _) _
  have hW1 : RW W base r X := h.below hb0
  have hrd : Rd W W.heap.size 1 (some ⟨w.heap.size, 0, none⟩) 1 ([s].map sv) := by rw [← hW]; simpa [sv] using Rd.lit_new w ([s].map sv) 9
  have hmay := rmay_any base r X W hW1 (some ⟨w.heap.size, 0, none⟩) 1 1 [s] hrd (by omega) (by intro x hx; simp at hx; subst hx; exact hs)
  rw [h0] at hmay
  have HMAY := Lib.hid hmay
  have H1 := Lib.hid hW1
  have HB0 := Lib.hid hb0
  have hsp := rspot_any base r X W H1.out s
  rw [he] at hsp
  have HSP := Lib.hid hsp
  have H0 := Lib.hid h0
  have HE := Lib.hid he
  clear h hW1 hmay hb0 h0 hrd he hsp
  go_enter Try.func39, Try.ntmps39
  go_wp2_with fail
  refine (unhide3 HMAY).mono ?_
  rintro en w1 ⟨rfl, rfl⟩
  go_wp2_with fail
  refine (unhide3 HSP).mono ?_
  rintro en w1 ⟨rfl, nq, rfl⟩
  go_wp2_with fail
  go_ret
  refine ⟨7, X, rfl, .inr (.inl ⟨H0.out, HE.out, rfl, rfl⟩), H1.out.keep (fun _ _ => rfl) (Nat.le_refl _), (Turn.of_below HB0.out).drewN nq, fun i hi => .inl hi⟩
set_option maxRecDepth 100000 in
set_option maxHeartbeats 3200000 in
theorem rsync_old (base r : Nat) (X : RDS) (w : World) (h : RW w base r X) (s : List UInt8) (hs : s.length ≤ 140737488351232) (h0 : rmayE X.left [s] = 0) (he : spotB s X.L = true) :
    Calls Try.prog 39 #[.pointer (some ⟨r, 0, none⟩), .string (str s)] w (RetX base r X (RSyncR X s) w) := by
  generalize hW : w.alloc (.cells #[.string (str s)] 9) = W
  have hb0 : Below w.heap.size w W := by rw [← hW]; exact (Below.refl _ _).alloc (Nat.le_refl _) _
  have hW1 : RW W base r X := h.below hb0
  have hrd : Rd W W.heap.size 1 (some ⟨w.heap.size, 0, none⟩) 1 ([s].map sv) := by rw [← hW]; simpa [sv] using Rd.lit_new w ([s].map sv) 9
  have hmay := rmay_any base r X W hW1 (some ⟨w.heap.size, 0, none⟩) 1 1 [s] hrd (by omega) (by intro x hx; simp at hx; subst hx; exact hs)
  rw [h0] at hmay
  have HMAY := Lib.hid hmay
  have H1 := Lib.hid hW1
  have HB0 := Lib.hid hb0
  have hsp := rspot_any base r X W H1.out s
  rw [he] at hsp
  have HSP := Lib.hid hsp
  obtain ⟨i, hi⟩ : ∃ i, spotI s X.L = i := ⟨_, rfl⟩
  obtain ⟨f, hf⟩ : ∃ f, X.L[i]? = some f := by
    have : spotB s X.L = true := he
    unfold spotB at this
    rw [hi] at this
    rcases hx : X.L[i]? with _ | f
    · rw [hx] at this; cases this
    · exact ⟨f, rfl⟩
  rw [hi] at hsp
  have HSP := Lib.hid hsp
  have HF := Lib.hid hf
  have HI := Lib.hid hi
  have H0 := Lib.hid h0
  have HE := Lib.hid he
  have hlt : i < X.L.length := (List.getElem?_eq_some_iff.1 hf).1
  have hfew := hW1.few
  have hcap := hW1.cap
  clear h hW1 hmay hb0 h0 hrd he hsp hf hi
  go_enter Try.func39, Try.ntmps39
  go_wp2_with fail
  refine (unhide3 HMAY).mono ?_
  rintro en w1 ⟨rfl, rfl⟩
  go_wp2_with fail
  refine (unhide3 HSP).mono ?_
  rintro en w1 ⟨rfl, nq, hw1⟩
  have hd1 : RW w1 base r X := by rw [hw1]; exact H1.out.keep (fun _ _ => rfl) (Nat.le_refl _)
  have ht1 : Turn (X.bl r) w w1 := by rw [hw1]; exact (Turn.of_below HB0.out).drewN nq
  have HT1 := Lib.hid ht1
  clear hw1 ht1 HMAY
  obtain ⟨g, f', hA, hg, hf', hm, k0, k1, k2, hfr, hc1, hc2⟩ := hd1.at_ hlt
  obtain rfl : f' = f := by rw [HF.out] at hf'; injection hf' with hf'; exact hf'.symm
  have hcc := hd1.cell
  unfold rdcells RDS.v at hcc
  have c1 : w1.cell? ⟨r, 1, none⟩ = some (.slice (some ⟨g, 0, none⟩) X.L.length X.c) := by have := hcc.cell 1; rw [hA] at this; exact this
  have HD1 := Lib.hid hd1
  have hgr : g ≠ r := hd1.ne_rv hg
  have hfl := (hd1.file f' hm)
  have hle : f'.b.length ≤ 1073741824 := by
    have h1 := hd1.room
    have h2 : f'.b.length ≤ X.used := by
      have : ∀ L : List RFE, f' ∈ L → f'.b.length ≤ (L.map fun f => f.b.length).sum := by
        intro L
        induction L with
        | nil => intro h; simp at h
        | cons x r ih =>
          intro h
          simp only [List.map_cons, List.sum_cons]
          rcases List.mem_cons.1 h with rfl | h3
          · omega
          · have := ih h3; omega
      exact this X.L hm
    omega
  have HFL := Lib.hid hfl
  have HM := Lib.hid hm
  have HG := Lib.hid hg
  have frz := hfr (i * 3 + 2)
  have fry := hfr (i * 3 + 1)
  obtain ⟨n, hn⟩ : ∃ n, n = X.L.length := ⟨_, rfl⟩
  rw [← hn] at c1 hlt hfew hcap hc1
  have HN := Lib.hid hn
  clear hd1 hcc hA hg hf' hm hfr hfl hn
  go_wp2_with fail
  refine wp_region_held_drew (S := fun w' => w'.cell? ⟨r, 1, none⟩ = some (.slice (some ⟨g, 0, none⟩) n X.c) ∧ w'.cell? ⟨g, i * 3 + 1, none⟩ = some (.slice f'.A f'.b.length f'.c)) (by kernel_rfl) (⟨c1, k1⟩) (fun hHeld => ?_)
  refine wpAnyH_take (i := 0) (oi := { dst := some 23, op := Go.Op.move (Go.Operand.tmp 0), type := 45, pos := "disk.go:96", after := #[], guard := none }) (v := ?_) rfl (by kernel_rfl) (by kernel_rfl) (by kernel_rfl) (fun _ _ _ h => h) (Or.inl ⟨by rfl, ?_⟩) (by assumption) ?_
  rotate_left
  · (intro w hSw; (try dsimp only at hSw); go_simp; try with_reducible rfl)
  try simp only [Act.put, List.setIfInBounds_toArray, List.set_cons_zero, List.set_cons_succ]
  refine wpAnyH_take (i := 1) (oi := { dst := some 24, op := Go.Op.nilCheck (Go.Operand.tmp 23), type := 0, pos := "disk.go:96", after := #[{ on := 0, ground := Go.Ground.data }], guard := none }) (v := ?_) rfl (by kernel_rfl) (by kernel_rfl) (by kernel_rfl) (fun _ _ _ h => h) (Or.inl ⟨by rfl, ?_⟩) (by assumption) ?_
  rotate_left
  · (intro w hSw; (try dsimp only at hSw); go_simp; try with_reducible rfl)
  try simp only [Act.put, List.setIfInBounds_toArray, List.set_cons_zero, List.set_cons_succ]
  refine wpAnyH_take (i := 2) (oi := { dst := some 25, op := Go.Op.fieldAddr 76 (Go.Operand.tmp 24) 1, type := 0, pos := "disk.go:96", after := #[{ on := 1, ground := Go.Ground.data }], guard := none }) (v := ?_) rfl (by kernel_rfl) (by kernel_rfl) (by kernel_rfl) (fun _ _ _ h => h) (Or.inl ⟨by rfl, ?_⟩) (by assumption) ?_
  rotate_left
  · (intro w hSw; (try dsimp only at hSw); go_simp; try with_reducible rfl)
  try simp only [Act.put, List.setIfInBounds_toArray, List.set_cons_zero, List.set_cons_succ]
  refine wpAnyH_take (i := 3) (oi := { dst := some 26, op := Go.Op.load 74 (Go.Operand.tmp 25), type := 74, pos := "disk.go:96", after := #[{ on := 2, ground := Go.Ground.data }], guard := none }) (v := ?_) rfl (by kernel_rfl) (by kernel_rfl) (by kernel_rfl) (fun _ _ _ h => h) (Or.inl ⟨by rfl, ?_⟩) (by assumption) ?_
  rotate_left
  · (intro w hSw; (try dsimp only at hSw); go_simp; try with_reducible rfl)
  try simp only [Act.put, List.setIfInBounds_toArray, List.set_cons_zero, List.set_cons_succ]
  refine wpAnyH_take (i := 4) (oi := { dst := some 27, op := Go.Op.move (Go.Operand.tmp 6), type := 3, pos := "disk.go:96", after := #[], guard := none }) (v := ?_) rfl (by kernel_rfl) (by kernel_rfl) (by kernel_rfl) (fun _ _ _ h => h) (Or.inl ⟨by rfl, ?_⟩) (by assumption) ?_
  rotate_left
  · (intro w hSw; (try dsimp only at hSw); go_simp; try with_reducible rfl)
  try simp only [Act.put, List.setIfInBounds_toArray, List.set_cons_zero, List.set_cons_succ]
  refine wpAnyH_take (i := 5) (oi := { dst := some 28, op := Go.Op.move (Go.Operand.tmp 0), type := 45, pos := "disk.go:96", after := #[], guard := none }) (v := ?_) rfl (by kernel_rfl) (by kernel_rfl) (by kernel_rfl) (fun _ _ _ h => h) (Or.inl ⟨by rfl, ?_⟩) (by assumption) ?_
  rotate_left
  · (intro w hSw; (try dsimp only at hSw); go_simp; try with_reducible rfl)
  try simp only [Act.put, List.setIfInBounds_toArray, List.set_cons_zero, List.set_cons_succ]
  refine wpAnyH_take (i := 6) (oi := { dst := some 29, op := Go.Op.nilCheck (Go.Operand.tmp 28), type := 0, pos := "disk.go:96", after := #[{ on := 5, ground := Go.Ground.data }], guard := none }) (v := ?_) rfl (by kernel_rfl) (by kernel_rfl) (by kernel_rfl) (fun _ _ _ h => h) (Or.inl ⟨by rfl, ?_⟩) (by assumption) ?_
  rotate_left
  · (intro w hSw; (try dsimp only at hSw); go_simp; try with_reducible rfl)
  try simp only [Act.put, List.setIfInBounds_toArray, List.set_cons_zero, List.set_cons_succ]
  refine wpAnyH_take (i := 7) (oi := { dst := some 30, op := Go.Op.fieldAddr 76 (Go.Operand.tmp 29) 1, type := 0, pos := "disk.go:96", after := #[{ on := 6, ground := Go.Ground.data }], guard := none }) (v := ?_) rfl (by kernel_rfl) (by kernel_rfl) (by kernel_rfl) (fun _ _ _ h => h) (Or.inl ⟨by rfl, ?_⟩) (by assumption) ?_
  rotate_left
  · (intro w hSw; (try dsimp only at hSw); go_simp; try with_reducible rfl)
  try simp only [Act.put, List.setIfInBounds_toArray, List.set_cons_zero, List.set_cons_succ]
  refine wpAnyH_take (i := 8) (oi := { dst := some 31, op := Go.Op.load 74 (Go.Operand.tmp 30), type := 74, pos := "disk.go:96", after := #[{ on := 7, ground := Go.Ground.data }], guard := none }) (v := ?_) rfl (by kernel_rfl) (by kernel_rfl) (by kernel_rfl) (fun _ _ _ h => h) (Or.inl ⟨by rfl, ?_⟩) (by assumption) ?_
  rotate_left
  · (intro w hSw; (try dsimp only at hSw); go_simp; try with_reducible rfl)
  try simp only [Act.put, List.setIfInBounds_toArray, List.set_cons_zero, List.set_cons_succ]
  refine wpAnyH_take (i := 9) (oi := { dst := some 32, op := Go.Op.move (Go.Operand.tmp 6), type := 3, pos := "disk.go:96", after := #[], guard := none }) (v := ?_) rfl (by kernel_rfl) (by kernel_rfl) (by kernel_rfl) (fun _ _ _ h => h) (Or.inl ⟨by rfl, ?_⟩) (by assumption) ?_
  rotate_left
  · (intro w hSw; (try dsimp only at hSw); go_simp; try with_reducible rfl)
  try simp only [Act.put, List.setIfInBounds_toArray, List.set_cons_zero, List.set_cons_succ]
  refine wpAnyH_take (i := 10) (oi := { dst := some 33, op := Go.Op.indexAddr 74 (Go.Operand.tmp 31) (Go.Operand.tmp 32), type := 0, pos := "disk.go:96", after := #[{ on := 8, ground := Go.Ground.data }, { on := 9, ground := Go.Ground.data }], guard := none }) (v := ?_) rfl (by kernel_rfl) (by kernel_rfl) (by kernel_rfl) (fun _ _ _ h => h) (Or.inl ⟨by rfl, ?_⟩) (by assumption) ?_
  rotate_left
  · (intro w hSw; (try dsimp only at hSw); go_simp; try with_reducible rfl)
  try simp only [Act.put, List.setIfInBounds_toArray, List.set_cons_zero, List.set_cons_succ]
  refine wpAnyH_take (i := 11) (oi := { dst := some 34, op := Go.Op.fieldAddr 78 (Go.Operand.tmp 33) 1, type := 0, pos := "disk.go:96", after := #[{ on := 10, ground := Go.Ground.data }], guard := none }) (v := ?_) rfl (by kernel_rfl) (by kernel_rfl) (by kernel_rfl) (fun _ _ _ h => h) (Or.inl ⟨by rfl, ?_⟩) (by assumption) ?_
  rotate_left
  · (intro w hSw; (try dsimp only at hSw); go_simp; try with_reducible rfl)
  try simp only [Act.put, List.setIfInBounds_toArray, List.set_cons_zero, List.set_cons_succ]
  refine wpAnyH_take (i := 12) (oi := { dst := some 35, op := Go.Op.load 23 (Go.Operand.tmp 34), type := 23, pos := "disk.go:96", after := #[{ on := 11, ground := Go.Ground.data }], guard := none }) (v := ?_) rfl (by kernel_rfl) (by kernel_rfl) (by kernel_rfl) (fun _ _ _ h => h) (Or.inl ⟨by rfl, ?_⟩) (by assumption) ?_
  rotate_left
  · (intro w hSw; (try dsimp only at hSw); go_simp; try with_reducible rfl)
  try simp only [Act.put, List.setIfInBounds_toArray, List.set_cons_zero, List.set_cons_succ]
  refine wpAnyH_take (i := 13) (oi := { dst := some 36, op := Go.Op.call { callee := Go.Callee.builtin Go.Builtin.len, args := #[Go.Operand.tmp 35], argTypes := #[23] }, type := 3, pos := "disk.go:96", after := #[{ on := 12, ground := Go.Ground.data }], guard := none }) (v := ?_) rfl (by kernel_rfl) (by kernel_rfl) (by kernel_rfl) (fun _ _ _ h => h) (Or.inl ⟨by rfl, ?_⟩) (by assumption) ?_
  rotate_left
  · (intro w hSw; (try dsimp only at hSw); go_simp; try with_reducible rfl)
  try simp only [Act.put, List.setIfInBounds_toArray, List.set_cons_zero, List.set_cons_succ]
  refine wpAnyH_take (i := 14) (oi := { dst := some 37, op := Go.Op.indexAddr 74 (Go.Operand.tmp 26) (Go.Operand.tmp 27), type := 0, pos := "disk.go:96", after := #[{ on := 3, ground := Go.Ground.data }, { on := 4, ground := Go.Ground.data }, { on := 0, ground := Go.Ground.phase }, { on := 1, ground := Go.Ground.phase }, { on := 2, ground := Go.Ground.phase }, { on := 3, ground := Go.Ground.phase }, { on := 4, ground := Go.Ground.phase }, { on := 5, ground := Go.Ground.phase }, { on := 6, ground := Go.Ground.phase }, { on := 7, ground := Go.Ground.phase }, { on := 8, ground := Go.Ground.phase }, { on := 9, ground := Go.Ground.phase }, { on := 10, ground := Go.Ground.phase }, { on := 11, ground := Go.Ground.phase }, { on := 12, ground := Go.Ground.phase }, { on := 13, ground := Go.Ground.phase }], guard := none }) (v := ?_) rfl (by kernel_rfl) (by kernel_rfl) (by kernel_rfl) (fun _ _ _ h => h) (Or.inl ⟨by rfl, ?_⟩) (by assumption) ?_
  rotate_left
  · (intro w hSw; (try dsimp only at hSw); go_simp; try with_reducible rfl)
  try simp only [Act.put, List.setIfInBounds_toArray, List.set_cons_zero, List.set_cons_succ]
  refine wpAnyH_take (i := 15) (oi := { dst := some 38, op := Go.Op.fieldAddr 78 (Go.Operand.tmp 37) 2, type := 0, pos := "disk.go:96", after := #[{ on := 14, ground := Go.Ground.data }, { on := 0, ground := Go.Ground.phase }, { on := 1, ground := Go.Ground.phase }, { on := 2, ground := Go.Ground.phase }, { on := 3, ground := Go.Ground.phase }, { on := 4, ground := Go.Ground.phase }, { on := 5, ground := Go.Ground.phase }, { on := 6, ground := Go.Ground.phase }, { on := 7, ground := Go.Ground.phase }, { on := 8, ground := Go.Ground.phase }, { on := 9, ground := Go.Ground.phase }, { on := 10, ground := Go.Ground.phase }, { on := 11, ground := Go.Ground.phase }, { on := 12, ground := Go.Ground.phase }, { on := 13, ground := Go.Ground.phase }], guard := none }) (v := ?_) rfl (by kernel_rfl) (by kernel_rfl) (by kernel_rfl) (fun _ _ _ h => h) (Or.inl ⟨by rfl, ?_⟩) (by assumption) ?_
  rotate_left
  · (intro w hSw; (try dsimp only at hSw); go_simp; try with_reducible rfl)
  try simp only [Act.put, List.setIfInBounds_toArray, List.set_cons_zero, List.set_cons_succ]
  refine wpAnyH_ready (rs := [16]) (by kernel_rfl) (by simp) ?_
  refine AllReadyH.cons (o := { dst := none, op := Go.Op.store 3 (Go.Operand.tmp 38) (Go.Operand.tmp 36), type := 0, pos := "disk.go:96", after := #[{ on := 15, ground := Go.Ground.data }, { on := 13, ground := Go.Ground.data }, { on := 0, ground := Go.Ground.phase }, { on := 1, ground := Go.Ground.phase }, { on := 2, ground := Go.Ground.phase }, { on := 3, ground := Go.Ground.phase }, { on := 4, ground := Go.Ground.phase }, { on := 5, ground := Go.Ground.phase }, { on := 6, ground := Go.Ground.phase }, { on := 7, ground := Go.Ground.phase }, { on := 8, ground := Go.Ground.phase }, { on := 9, ground := Go.Ground.phase }, { on := 10, ground := Go.Ground.phase }, { on := 11, ground := Go.Ground.phase }, { on := 12, ground := Go.Ground.phase }, { on := 13, ground := Go.Ground.phase }], guard := none }) rfl (fun K hK => ?_) AllReadyH.nil
  go_simp
  refine hK.out _ _ (⟨(World.cell?_setCell_other _ _ _ _ (by simp [hgr])).trans c1, (World.cell?_setCell_other _ _ _ _ (by simp)).trans k1⟩) (fun hHeld => ?_)
  clear hK K
  try simp only [Act.put, List.setIfInBounds_toArray, List.set_cons_zero, List.set_cons_succ]
  refine wpAnyH_done (by kernel_rfl) ?_ _
  obtain ⟨W4, hW4⟩ : ∃ W4, w1.setCell ⟨g, i * 3 + 2, none⟩ (.int .i64 (f'.b.length : Int)) = W4 := ⟨_, rfl⟩
  rw [hW4]
  have hsf := HD1.out.set_file (f' := ⟨f'.s, f'.A, f'.c, f'.b, f'.b.length⟩) (j := 2) HG.out HF.out (by omega) rfl hW4 ⟨HFL.out.1, Nat.le_refl _, HFL.out.2.2⟩ (fun k hk => (HD1.out.ge k (rbl_f HM.out hk)).1) (by have := HD1.out.room; simp only; omega)
  obtain ⟨W5, hW5⟩ : ∃ W5, W4.drew = W5 := ⟨_, rfl⟩
  rw [hW5]
  have HX : Hid (RW W5 base r { X with L := X.L.set i ⟨f'.s, f'.A, f'.c, f'.b, f'.b.length⟩ } ∧ Turn (X.bl r) w1 W5 ∧ ∀ k ∈ ({ X with L := X.L.set i ⟨f'.s, f'.A, f'.c, f'.b, f'.b.length⟩ } : RDS).bl r, k ∈ X.bl r ∨ w1.heap.size ≤ k) := by
    rw [← hW5]
    refine ⟨hsf.1.keep (fun _ _ => rfl) (Nat.le_refl _), ((Turn.refl (X.bl r) w1).trans hsf.2 (fun k hk => .inl (by simp at hk; subst hk; exact rbl_v HG.out))).drewN 1, fun k hk => ?_⟩
    rcases bl_set HF.out k hk with h1 | h1
    · exact .inl h1
    · exact .inl (rbl_f HM.out h1)
  clear hsf hW4 hW5 hHeld k0 k1 k2 frz fry c1
  go_wp2_with fail
  have hbn := rdid_any base r _ W5 HX.out.1
  have HBN := Lib.hid hbn
  clear hbn
  refine (unhide3 HBN).mono ?_
  rintro en w5 ⟨rfl, d5, t5⟩
  go_wp2_with fail
  go_ret
  refine ⟨0, _, rfl, .inr (.inr ⟨H0.out, HE.out, i, f', HI.out, HF.out, rfl, rfl⟩), d5, ?_, ?_⟩
  · have t2 : Turn (X.bl r) w W5 := HT1.out.trans HX.out.2.1 (fun i hi => .inl hi)
    exact t2.trans t5 (fun k hk => by
      rcases HX.out.2.2 k hk with h1 | h1
      · exact .inl h1
      · exact .inr (by have := HT1.out.size; omega))
  · intro k hk
    rw [didX_bl] at hk
    rcases HX.out.2.2 k hk with h1 | h1
    · exact .inl h1
    · exact .inr (by have := HT1.out.size; omega)
end Go.Proofs.Ytcoimlenejffpaa

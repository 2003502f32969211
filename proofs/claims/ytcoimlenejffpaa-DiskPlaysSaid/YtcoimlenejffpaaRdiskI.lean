/- ref disk: Crash. -/
import Derived.Test.YtcoimlenejffpaaRdiskH
namespace Go.Proofs.Ytcoimlenejffpaa
set_option linter.all false
open Go.RowKit
/-- What a file is to the outside: its name, its bytes, how many last. -/
def absF (f : RFE) : List UInt8 × List UInt8 × Nat := (f.s, f.b, f.l)
def stayN (k : Nat) (b : List UInt8) (l : Nat) : Nat := l + k % (b.length - l + 1)
def cutA (k : Nat) (p : List UInt8 × List UInt8 × Nat) : List UInt8 × List UInt8 × Nat := (p.1, p.2.1.take (stayN k p.2.1 p.2.2), stayN k p.2.1 p.2.2)
/-- The first i files are cut. -/
def CutTo (X X1 : RDS) (k i : Nat) : Prop := X1.room = X.room ∧ X1.left = X.left ∧ X1.L.length = X.L.length ∧ X1.L.map absF = ((X.L.take i).map absF).map (cutA k) ++ (X.L.drop i).map absF
theorem cut_at {X X1 : RDS} {k i : Nat} {f : RFE} (h : CutTo X X1 k i) (hf : X1.L[i]? = some f) : ∃ f0, X.L[i]? = some f0 ∧ absF f = absF f0 := by
  have h1 : (X1.L.map absF)[i]? = some (absF f) := by rw [List.getElem?_map, hf]; rfl
  have hlt : i < X.L.length := by rw [← h.2.2.1]; exact (List.getElem?_eq_some_iff.1 hf).1
  rw [h.2.2.2, List.getElem?_append_right (by simp; omega)] at h1
  have h2 : i - (((X.L.take i).map absF).map (cutA k)).length = 0 := by simp; omega
  rw [h2, List.getElem?_map, List.getElem?_drop, Nat.add_zero] at h1
  rcases hx : X.L[i]? with _ | f0
  · rw [hx] at h1; cases h1
  · rw [hx] at h1
    injection h1 with h1
    exact ⟨f0, rfl, h1.symm⟩
theorem cut_next {X X1 : RDS} {k i : Nat} {f : RFE} (h : CutTo X X1 k i) (hf : X1.L[i]? = some f) (A : Option Addr) (c : Nat) :
    CutTo X { X1 with L := X1.L.set i ⟨f.s, A, c, f.b.take (stayN k f.b f.l), stayN k f.b f.l⟩ } k (i + 1) := by
  obtain ⟨f0, h0, e0⟩ := cut_at h hf
  refine ⟨h.1, h.2.1, by simp only [List.length_set]; exact h.2.2.1, ?_⟩
  have hlt : i < X.L.length := (List.getElem?_eq_some_iff.1 h0).1
  simp only [List.map_set]
  rw [h.2.2.2, List.set_append_right _ _ (by simp; omega)]
  have h2 : i - (((X.L.take i).map absF).map (cutA k)).length = 0 := by simp; omega
  rw [h2]
  have h3 : X.L.drop i = f0 :: X.L.drop (i + 1) := by
    obtain ⟨h4, e4⟩ := List.getElem?_eq_some_iff.1 h0
    rw [List.drop_eq_getElem_cons h4, e4]
  rw [h3, List.map_cons, List.set_cons_zero, List.take_add_one, h0]
  simp only [Option.toList_some, List.map_append, List.map_cons, List.map_nil, List.append_assoc, List.cons_append, List.nil_append]
  rw [← e0]
  rfl
set_option maxRecDepth 100000 in
set_option maxHeartbeats 3200000 in
theorem rcrash_any (base r : Nat) (X : RDS) (w : World) (h : RW w base r X) (d : Int) (k : Nat) (hk : (if 0 < d then d else 0) = (k : Int)) (hd : d ≤ 9223372036854775807) :
    Calls Try.prog 44 #[.pointer (some ⟨r, 0, none⟩), .int .i64 d] w (fun e w' => e = .returned (.tuple #[]) ∧ ∃ X', X'.room = X.room ∧ X'.left = -1 ∧ X'.L.map absF = (X.L.map absF).map (cutA k) ∧ RW w' base r X' ∧ Turn (X.bl r) w w' ∧ ∀ i ∈ X'.bl r, i ∈ X.bl r ∨ w.heap.size ≤ i) := by
  have H := Lib.hid h
  have hfew := h.few
  have hk9 : k ≤ 9223372036854775807 := by split at hk <;> omega
  obtain ⟨n, hn⟩ : ∃ n, n = X.L.length := ⟨_, rfl⟩
  rw [← hn] at hfew
  have HN := Lib.hid hn
  clear h hn
  rcases Int.lt_or_le 0 d with hd0 | hd0
  · obtain rfl : d = (k : Int) := by rw [← hk, if_pos hd0]
    clear hk
    go_enter Try.func44, Try.ntmps44
    go_wp2_with fail
    go_loopw [4] (fun s4 wr => ∃ (i : Nat) (X1 : RDS), i ≤ n ∧ s4 = .int .i64 (i : Int) ∧ Hid (RW wr base r X1) ∧ Hid (Turn (X.bl r) w wr) ∧ Hid (∀ p ∈ X1.bl r, p ∈ X.bl r ∨ w.heap.size ≤ p) ∧ Hid (CutTo X X1 k i)) (fun s4 _ => n - (intOf s4).toNat)
    case atStart => exact ⟨0, X, Nat.zero_le _, rfl, H.out, Turn.refl _ _, fun p hp => .inl hp, rfl, rfl, rfl, by simp⟩
    case round =>
      obtain ⟨i, X1, hi, rfl, HD, HT, HBL, HCT⟩ := hrel
      have hln1 : X1.L.length = n := by rw [HCT.out.2.2.1, HN.out]
      have hcap1 := HD.out.cap
      rw [hln1] at hcap1
      by_cases hlt : i < n
      · obtain ⟨g, f, hA, hg, hf, hm, k0, k1, k2, hfr, hc1, hc2⟩ := HD.out.at_ (show i < X1.L.length by rw [hln1]; exact hlt)
        have c1 : wr.cell? ⟨r, 1, none⟩ = some (.slice (some ⟨g, 0, none⟩) n X1.c) := by have h9 := HD.out.cell; unfold rdcells RDS.v at h9; have h8 := h9.cell 1; rw [hA, hln1] at h8; exact h8
        have HG := Lib.hid hg
        have HF := Lib.hid hf
        have HFL := Lib.hid (HD.out.file f hm)
        have hlb := HFL.out.2.1
        have hble : f.b.length ≤ 1073741824 := by
          have h1 := HD.out.room
          have h2 : f.b.length ≤ X1.used := by
            have : ∀ L : List RFE, f ∈ L → f.b.length ≤ (L.map fun f => f.b.length).sum := by
              intro L
              induction L with
              | nil => intro h; simp at h
              | cons x r ih =>
                intro h
                simp only [List.map_cons, List.sum_cons]
                rcases List.mem_cons.1 h with rfl | h3
                · omega
                · have := ih h3; omega
            exact this X1.L hm
          omega
        obtain ⟨U, hU⟩ : ∃ U, U = f.b.length - f.l := ⟨_, rfl⟩
        have hsub : (f.b.length : Int) - (f.l : Int) = (U : Int) := by omega
        have hwU : IntKind.i64.wrap ((U : Int) + 1) = (U : Int) + 1 := IntWalk.i64_in _ ⟨by omega, by omega⟩
        have hnz : ¬ ((U : Int) + 1 = 0) := by omega
        obtain ⟨rr, hrr⟩ : ∃ rr, rr = k % (U + 1) := ⟨_, rfl⟩
        obtain ⟨q, hq⟩ : ∃ q, q = f.l + rr := ⟨_, rfl⟩
        have hrl9 : rr ≤ U := by have := Nat.mod_lt k (show U + 1 > 0 by omega); omega
        have hql : q ≤ f.b.length := by omega
        have hqs : Hid (q = stayN k f.b f.l) := by show _ = _; unfold stayN; rw [hq, hrr, hU]
        have hm1 : (k : Int).tmod ((U : Int) + 1) = (rr : Int) := by rw [Int.tmod_eq_emod_of_nonneg (by omega), hrr]; push_cast; rfl
        have hm2 : (k : Int) % ((U : Int) + 1) = (rr : Int) := by rw [hrr]; push_cast; rfl
        have hadd : IntKind.i64.wrap ((f.l : Int) + (rr : Int)) = (q : Int) := by rw [IntWalk.i64_in _ ⟨by omega, by omega⟩]; omega
        have hadd2 : (f.l : Int) + (rr : Int) = (q : Int) := by omega
        have hfc : f.b.length ≤ f.c ∧ f.c ≤ 9223372036854775807 := by
          obtain ⟨A9, c9, e9, h8, h9⟩ := HFL.out.1.form
          unfold RFE.v at e9
          injection e9 with _ _ e9
          rw [e9]; exact ⟨h8, h9⟩
        have q7 : (q : Int) ≤ (f.c : Int) := by omega
        have q8 : (0 : Int) ≤ (q : Int) := by omega
        have hwq : IntKind.i64.wrap (q : Int) = (q : Int) := IntWalk.i64_in _ ⟨by omega, by omega⟩
        have HREL : Hid (∀ A c, CutTo X { X1 with L := X1.L.set i ⟨f.s, A, c, f.b.take q, q⟩ } k (i + 1)) := fun A c => by rw [hqs.out]; exact cut_next HCT.out HF.out A c
        clear hg hf hm hfr hU hrr hqs hA k0 hq
        go_wp2_with fail
        go_quiet (fail)
        obtain ⟨w1, hw1⟩ : ∃ w1, wr.drewN nq = w1 := ⟨_, rfl⟩
        rw [hw1]
        have hd1 : RW w1 base r X1 := by rw [← hw1]; exact HD.out.keep (fun _ _ => rfl) (Nat.le_refl _)
        have ht1 : Turn (X.bl r) w w1 := by rw [← hw1]; exact HT.out.drewN nq
        have k11 : w1.cell? ⟨g, i * 3 + 1, none⟩ = some (.slice f.A f.b.length f.c) := by rw [← hw1]; exact k1
        have k21 : w1.cell? ⟨g, i * 3 + 2, none⟩ = some (.int .i64 (f.l : Int)) := by rw [← hw1]; exact k2
        go_wp2_with fail
        refine wp_region_held_drew (S := fun w' => w'.cell? ⟨g, i * 3 + 2, none⟩ = some (.int .i64 (f.l : Int))) (by kernel_rfl) (k21) (fun hHeld => ?_)
        obtain ⟨w2, hw2⟩ : ∃ w2, w1.drew = w2 := ⟨_, rfl⟩
        rw [hw2] at hHeld ⊢
        have hd2 : RW w2 base r X1 := by rw [← hw2]; exact hd1.keep (fun _ _ => rfl) (Nat.le_refl _)
        have HT2 : Hid (Turn (X.bl r) w w2) := by show Turn _ _ _; rw [← hw2]; exact ht1.drewN 1
        have k12 : w2.cell? ⟨g, i * 3 + 1, none⟩ = some (.slice f.A f.b.length f.c) := by rw [← hw2]; exact k11
        have k22 : w2.cell? ⟨g, i * 3 + 2, none⟩ = some (.int .i64 (f.l : Int)) := by rw [← hw2]; exact k21
        have hgl : g < w2.heap.size := (hd2.ge g (rbl_v HG.out)).2
        have hbs2 : Hid (Bs w2 w2.heap.size f.A q (f.b.take q)) := ((hd2.file f (List.mem_of_getElem? HF.out)).1.bs).take hql
        have HD2 := Lib.hid hd2
        clear hd1 ht1 hd2 hw1 hw2 k11 k21 k1 k2 c1
        refine wpAnyH_take (i := 0) (oi := { dst := some 34, op := Go.Op.move (Go.Operand.tmp 5), type := 92, pos := "disk.go:173", after := #[], guard := none }) (v := ?_) rfl (by kernel_rfl) (by kernel_rfl) (by kernel_rfl) (fun _ _ _ h => h) (Or.inl ⟨by rfl, ?_⟩) (by assumption) ?_
        rotate_left
        · (intro w hSw; (try dsimp only at hSw); go_simp; try with_reducible rfl)
        try simp only [Act.put, List.setIfInBounds_toArray, List.set_cons_zero, List.set_cons_succ]
        refine wpAnyH_take (i := 2) (oi := { dst := some 36, op := Go.Op.move (Go.Operand.tmp 5), type := 92, pos := "disk.go:173", after := #[], guard := none }) (v := ?_) rfl (by kernel_rfl) (by kernel_rfl) (by kernel_rfl) (fun _ _ _ h => h) (Or.inl ⟨by rfl, ?_⟩) (by assumption) ?_
        rotate_left
        · (intro w hSw; (try dsimp only at hSw); go_simp; try with_reducible rfl)
        try simp only [Act.put, List.setIfInBounds_toArray, List.set_cons_zero, List.set_cons_succ]
        refine wpAnyH_take (i := 3) (oi := { dst := some 37, op := Go.Op.nilCheck (Go.Operand.tmp 36), type := 0, pos := "disk.go:173", after := #[{ on := 2, ground := Go.Ground.data }], guard := none }) (v := ?_) rfl (by kernel_rfl) (by kernel_rfl) (by kernel_rfl) (fun _ _ _ h => h) (Or.inl ⟨by rfl, ?_⟩) (by assumption) ?_
        rotate_left
        · (intro w hSw; (try dsimp only at hSw); go_simp; try with_reducible rfl)
        try simp only [Act.put, List.setIfInBounds_toArray, List.set_cons_zero, List.set_cons_succ]
        refine wpAnyH_take (i := 4) (oi := { dst := some 38, op := Go.Op.fieldAddr 78 (Go.Operand.tmp 37) 1, type := 0, pos := "disk.go:173", after := #[{ on := 3, ground := Go.Ground.data }], guard := none }) (v := ?_) rfl (by kernel_rfl) (by kernel_rfl) (by kernel_rfl) (fun _ _ _ h => h) (Or.inl ⟨by rfl, ?_⟩) (by assumption) ?_
        rotate_left
        · (intro w hSw; (try dsimp only at hSw); go_simp; try with_reducible rfl)
        try simp only [Act.put, List.setIfInBounds_toArray, List.set_cons_zero, List.set_cons_succ]
        refine wpAnyH_take (i := 6) (oi := { dst := some 40, op := Go.Op.move (Go.Operand.tmp 5), type := 92, pos := "disk.go:173", after := #[], guard := none }) (v := ?_) rfl (by kernel_rfl) (by kernel_rfl) (by kernel_rfl) (fun _ _ _ h => h) (Or.inl ⟨by rfl, ?_⟩) (by assumption) ?_
        rotate_left
        · (intro w hSw; (try dsimp only at hSw); go_simp; try with_reducible rfl)
        try simp only [Act.put, List.setIfInBounds_toArray, List.set_cons_zero, List.set_cons_succ]
        refine wpAnyH_take (i := 7) (oi := { dst := some 41, op := Go.Op.nilCheck (Go.Operand.tmp 40), type := 0, pos := "disk.go:173", after := #[{ on := 6, ground := Go.Ground.data }], guard := none }) (v := ?_) rfl (by kernel_rfl) (by kernel_rfl) (by kernel_rfl) (fun _ _ _ h => h) (Or.inl ⟨by rfl, ?_⟩) (by assumption) ?_
        rotate_left
        · (intro w hSw; (try dsimp only at hSw); go_simp; try with_reducible rfl)
        try simp only [Act.put, List.setIfInBounds_toArray, List.set_cons_zero, List.set_cons_succ]
        refine wpAnyH_take (i := 8) (oi := { dst := some 42, op := Go.Op.fieldAddr 78 (Go.Operand.tmp 41) 2, type := 0, pos := "disk.go:173", after := #[{ on := 7, ground := Go.Ground.data }], guard := none }) (v := ?_) rfl (by kernel_rfl) (by kernel_rfl) (by kernel_rfl) (fun _ _ _ h => h) (Or.inl ⟨by rfl, ?_⟩) (by assumption) ?_
        rotate_left
        · (intro w hSw; (try dsimp only at hSw); go_simp; try with_reducible rfl)
        try simp only [Act.put, List.setIfInBounds_toArray, List.set_cons_zero, List.set_cons_succ]
        refine wpAnyH_take (i := 9) (oi := { dst := some 43, op := Go.Op.load 3 (Go.Operand.tmp 42), type := 3, pos := "disk.go:173", after := #[{ on := 8, ground := Go.Ground.data }], guard := none }) (v := ?_) rfl (by kernel_rfl) (by kernel_rfl) (by kernel_rfl) (fun _ _ _ h => h) (Or.inl ⟨by rfl, ?_⟩) (by assumption) ?_
        rotate_left
        · (intro w hSw; (try dsimp only at hSw); go_simp; try with_reducible rfl)
        try simp only [Act.put, List.setIfInBounds_toArray, List.set_cons_zero, List.set_cons_succ]
        refine wpAnyH_take (i := 10) (oi := { dst := some 44, op := Go.Op.move (Go.Operand.tmp 1), type := 3, pos := "disk.go:173", after := #[], guard := none }) (v := ?_) rfl (by kernel_rfl) (by kernel_rfl) (by kernel_rfl) (fun _ _ _ h => h) (Or.inl ⟨by rfl, ?_⟩) (by assumption) ?_
        rotate_left
        · (intro w hSw; (try dsimp only at hSw); go_simp; try with_reducible rfl)
        try simp only [Act.put, List.setIfInBounds_toArray, List.set_cons_zero, List.set_cons_succ]
        refine wpAnyH_take (i := 11) (oi := { dst := some 45, op := Go.Op.move (Go.Operand.tmp 6), type := 3, pos := "disk.go:173", after := #[], guard := none }) (v := ?_) rfl (by kernel_rfl) (by kernel_rfl) (by kernel_rfl) (fun _ _ _ h => h) (Or.inl ⟨by rfl, ?_⟩) (by assumption) ?_
        rotate_left
        · (intro w hSw; (try dsimp only at hSw); go_simp; try with_reducible rfl)
        try simp only [Act.put, List.setIfInBounds_toArray, List.set_cons_zero, List.set_cons_succ]
        refine wpAnyH_take (i := 12) (oi := { dst := some 46, op := Go.Op.binOp Go.BinOp.add 3 (Go.Operand.tmp 45) (Go.Operand.const (Go.Value.int Go.IntKind.i64 1)) 3, type := 3, pos := "disk.go:173", after := #[{ on := 11, ground := Go.Ground.data }], guard := none }) (v := ?_) rfl (by kernel_rfl) (by kernel_rfl) (by kernel_rfl) (fun _ _ _ h => h) (Or.inl ⟨by rfl, ?_⟩) (by assumption) ?_
        rotate_left
        · (intro w hSw; (try dsimp only at hSw); go_simp; try with_reducible rfl)
        try simp only [Act.put, List.setIfInBounds_toArray, List.set_cons_zero, List.set_cons_succ]
        refine wpAnyH_take (i := 13) (oi := { dst := some 47, op := Go.Op.binOp Go.BinOp.rem 3 (Go.Operand.tmp 44) (Go.Operand.tmp 46) 3, type := 3, pos := "disk.go:173", after := #[{ on := 10, ground := Go.Ground.data }, { on := 12, ground := Go.Ground.data }], guard := none }) (v := ?_) rfl (by kernel_rfl) (by kernel_rfl) (by kernel_rfl) (fun _ _ _ h => h) (Or.inl ⟨by rfl, ?_⟩) (by assumption) ?_
        rotate_left
        · (intro w hSw; (try dsimp only at hSw); go_simp; try with_reducible rfl)
        try simp only [Act.put, List.setIfInBounds_toArray, List.set_cons_zero, List.set_cons_succ]
        refine wpAnyH_take (i := 14) (oi := { dst := some 48, op := Go.Op.binOp Go.BinOp.add 3 (Go.Operand.tmp 43) (Go.Operand.tmp 47) 3, type := 3, pos := "disk.go:173", after := #[{ on := 9, ground := Go.Ground.data }, { on := 13, ground := Go.Ground.data }], guard := none }) (v := ?_) rfl (by kernel_rfl) (by kernel_rfl) (by kernel_rfl) (fun _ _ _ h => h) (Or.inl ⟨by rfl, ?_⟩) (by assumption) ?_
        rotate_left
        · (intro w hSw; (try dsimp only at hSw); go_simp; try with_reducible rfl)
        try simp only [Act.put, List.setIfInBounds_toArray, List.set_cons_zero, List.set_cons_succ]
        refine wpAnyH_ready (rs := [1, 5]) (by kernel_rfl) (by simp) ?_
        refine AllReadyH.cons (o := { dst := some 35, op := Go.Op.buildSlice 23 0 #[], type := 23, pos := "disk.go:173", after := #[], guard := none }) rfl (fun K hK => ?_) ?_
        go_simp
        obtain ⟨wA, hwA⟩ : ∃ wA, w2.alloc (.cells #[] 5) = wA := ⟨_, rfl⟩
        rw [hwA]
        have bA : Below w2.heap.size w2 wA := by rw [← hwA]; exact below_refl_alloc _ _
        have k2A : wA.cell? ⟨g, i * 3 + 2, none⟩ = some (.int .i64 (f.l : Int)) := (bA.cell (p := ⟨g, i * 3 + 2, none⟩) hgl).trans k22
        have k1A : wA.cell? ⟨g, i * 3 + 1, none⟩ = some (.slice f.A f.b.length f.c) := (bA.cell (p := ⟨g, i * 3 + 1, none⟩) hgl).trans k12
        refine hK.out _ _ (k2A) (fun hHeld => ?_)
        clear hK K
        try simp only [Act.put, List.setIfInBounds_toArray, List.set_cons_zero, List.set_cons_succ]
        refine wpAnyH_ready (rs := [5]) (by kernel_rfl) (by simp) ?_
        refine AllReadyH.cons (o := { dst := some 39, op := Go.Op.load 23 (Go.Operand.tmp 38), type := 23, pos := "disk.go:173", after := #[{ on := 4, ground := Go.Ground.data }], guard := none }) rfl (fun K hK => ?_) AllReadyH.nil
        go_simp
        refine hK.out _ _ (k2A) (fun hHeld => ?_)
        clear hK K
        try simp only [Act.put, List.setIfInBounds_toArray, List.set_cons_zero, List.set_cons_succ]
        refine wpAnyH_take (i := 15) (oi := { dst := some 49, op := Go.Op.slice 23 (Go.Operand.tmp 39) none (some (Go.Operand.tmp 48)) none, type := 23, pos := "disk.go:173", after := #[{ on := 5, ground := Go.Ground.data }, { on := 14, ground := Go.Ground.data }], guard := none }) (v := ?_) rfl (by kernel_rfl) (by kernel_rfl) (by kernel_rfl) (fun _ _ _ h => h) (Or.inl ⟨by rfl, ?_⟩) (by assumption) ?_
        rotate_left
        · (intro w hSw; (try dsimp only at hSw); go_simp; try with_reducible rfl)
        try simp only [Act.put, List.setIfInBounds_toArray, List.set_cons_zero, List.set_cons_succ]
        refine wpAnyH_ready (rs := [16]) (by kernel_rfl) (by simp) ?_
        refine AllReadyH.cons (o := { dst := some 50, op := Go.Op.call { callee := Go.Callee.builtin Go.Builtin.append, args := #[Go.Operand.tmp 35, Go.Operand.tmp 49], argTypes := #[23, 23] }, type := 23, pos := "disk.go:173", after := #[{ on := 1, ground := Go.Ground.data }, { on := 15, ground := Go.Ground.data }], guard := none }) rfl (fun K hK => ?_) AllReadyH.nil
        rw [if_pos (by rfl)]
        refine wpB_append_op (.tmp 35) (.tmp 49) rfl w2.heap.size _ 0 [] rfl (by rw [← hwA]; exact own_empty w2 _ _) w2.heap.size f.A q f.c (f.b.take q) rfl (hbs2.out.below bA) q (f.b.take q) (by omega) rfl (by omega) bA.size ?_
        intro A7 c7 w7 o7 b7 hc7 hm7
        have b27 : Below w2.heap.size w2 w7 := bA.trans b7
        have k27 : w7.cell? ⟨g, i * 3 + 2, none⟩ = some (.int .i64 (f.l : Int)) := (b27.cell (p := ⟨g, i * 3 + 2, none⟩) hgl).trans k22
        have k17 : w7.cell? ⟨g, i * 3 + 1, none⟩ = some (.slice f.A f.b.length f.c) := (b27.cell (p := ⟨g, i * 3 + 1, none⟩) hgl).trans k12
        have fz7 : w7.frozen? ⟨g, i * 3 + 1, none⟩ = false := by
          obtain ⟨cs, hb⟩ := (HD2.out.below b27).row_blk HG.out
          exact hb.free _
        refine hK.out _ _ (k27) (fun hHeld => ?_)
        clear hK K
        try simp only [Act.put, List.setIfInBounds_toArray, List.set_cons_zero, List.set_cons_succ]
        refine wpAnyH_take (i := 17) (oi := { dst := some 51, op := Go.Op.nilCheck (Go.Operand.tmp 34), type := 0, pos := "disk.go:173", after := #[{ on := 0, ground := Go.Ground.data }, { on := 0, ground := Go.Ground.phase }, { on := 1, ground := Go.Ground.phase }, { on := 2, ground := Go.Ground.phase }, { on := 3, ground := Go.Ground.phase }, { on := 4, ground := Go.Ground.phase }, { on := 5, ground := Go.Ground.phase }, { on := 6, ground := Go.Ground.phase }, { on := 7, ground := Go.Ground.phase }, { on := 8, ground := Go.Ground.phase }, { on := 9, ground := Go.Ground.phase }, { on := 10, ground := Go.Ground.phase }, { on := 11, ground := Go.Ground.phase }, { on := 12, ground := Go.Ground.phase }, { on := 13, ground := Go.Ground.phase }, { on := 14, ground := Go.Ground.phase }, { on := 15, ground := Go.Ground.phase }, { on := 16, ground := Go.Ground.phase }], guard := none }) (v := ?_) rfl (by kernel_rfl) (by kernel_rfl) (by kernel_rfl) (fun _ _ _ h => h) (Or.inl ⟨by rfl, ?_⟩) (by assumption) ?_
        rotate_left
        · (intro w hSw; (try dsimp only at hSw); go_simp; try with_reducible rfl)
        try simp only [Act.put, List.setIfInBounds_toArray, List.set_cons_zero, List.set_cons_succ]
        refine wpAnyH_take (i := 18) (oi := { dst := some 52, op := Go.Op.fieldAddr 78 (Go.Operand.tmp 51) 1, type := 0, pos := "disk.go:173", after := #[{ on := 17, ground := Go.Ground.data }, { on := 0, ground := Go.Ground.phase }, { on := 1, ground := Go.Ground.phase }, { on := 2, ground := Go.Ground.phase }, { on := 3, ground := Go.Ground.phase }, { on := 4, ground := Go.Ground.phase }, { on := 5, ground := Go.Ground.phase }, { on := 6, ground := Go.Ground.phase }, { on := 7, ground := Go.Ground.phase }, { on := 8, ground := Go.Ground.phase }, { on := 9, ground := Go.Ground.phase }, { on := 10, ground := Go.Ground.phase }, { on := 11, ground := Go.Ground.phase }, { on := 12, ground := Go.Ground.phase }, { on := 13, ground := Go.Ground.phase }, { on := 14, ground := Go.Ground.phase }, { on := 15, ground := Go.Ground.phase }, { on := 16, ground := Go.Ground.phase }], guard := none }) (v := ?_) rfl (by kernel_rfl) (by kernel_rfl) (by kernel_rfl) (fun _ _ _ h => h) (Or.inl ⟨by rfl, ?_⟩) (by assumption) ?_
        rotate_left
        · (intro w hSw; (try dsimp only at hSw); go_simp; try with_reducible rfl)
        try simp only [Act.put, List.setIfInBounds_toArray, List.set_cons_zero, List.set_cons_succ]
        refine wpAnyH_ready (rs := [19]) (by kernel_rfl) (by simp) ?_
        refine AllReadyH.cons (o := { dst := none, op := Go.Op.store 23 (Go.Operand.tmp 52) (Go.Operand.tmp 50), type := 0, pos := "disk.go:173", after := #[{ on := 18, ground := Go.Ground.data }, { on := 16, ground := Go.Ground.data }, { on := 16, ground := Go.Ground.chain }, { on := 0, ground := Go.Ground.phase }, { on := 1, ground := Go.Ground.phase }, { on := 2, ground := Go.Ground.phase }, { on := 3, ground := Go.Ground.phase }, { on := 4, ground := Go.Ground.phase }, { on := 5, ground := Go.Ground.phase }, { on := 6, ground := Go.Ground.phase }, { on := 7, ground := Go.Ground.phase }, { on := 8, ground := Go.Ground.phase }, { on := 9, ground := Go.Ground.phase }, { on := 10, ground := Go.Ground.phase }, { on := 11, ground := Go.Ground.phase }, { on := 12, ground := Go.Ground.phase }, { on := 13, ground := Go.Ground.phase }, { on := 14, ground := Go.Ground.phase }, { on := 15, ground := Go.Ground.phase }, { on := 16, ground := Go.Ground.phase }], guard := none }) rfl (fun K hK => ?_) AllReadyH.nil
        go_simp
        obtain ⟨w8, hw8⟩ : ∃ w8, w7.setCell ⟨g, i * 3 + 1, none⟩ (.slice A7 q c7) = w8 := ⟨_, rfl⟩
        rw [hw8]
        have k28 : w8.cell? ⟨g, i * 3 + 2, none⟩ = some (.int .i64 (f.l : Int)) := by rw [← hw8]; exact (World.cell?_setCell_other _ _ _ _ (by simp)).trans k27
        refine hK.out _ _ (k28) (fun hHeld => ?_)
        clear hK K
        try simp only [Act.put, List.setIfInBounds_toArray, List.set_cons_zero, List.set_cons_succ]
        refine wpAnyH_done (by kernel_rfl) ?_ _
        rotate_left 1
        refine AllReadyH.cons (o := { dst := some 39, op := Go.Op.load 23 (Go.Operand.tmp 38), type := 23, pos := "disk.go:173", after := #[{ on := 4, ground := Go.Ground.data }], guard := none }) rfl (fun K hK => ?_) AllReadyH.nil
        go_simp
        refine hK.out _ _ (k22) (fun hHeld => ?_)
        clear hK K
        try simp only [Act.put, List.setIfInBounds_toArray, List.set_cons_zero, List.set_cons_succ]
        refine wpAnyH_take (i := 15) (oi := { dst := some 49, op := Go.Op.slice 23 (Go.Operand.tmp 39) none (some (Go.Operand.tmp 48)) none, type := 23, pos := "disk.go:173", after := #[{ on := 5, ground := Go.Ground.data }, { on := 14, ground := Go.Ground.data }], guard := none }) (v := ?_) rfl (by kernel_rfl) (by kernel_rfl) (by kernel_rfl) (fun _ _ _ h => h) (Or.inl ⟨by rfl, ?_⟩) (by assumption) ?_
        rotate_left
        · (intro w hSw; (try dsimp only at hSw); go_simp; try with_reducible rfl)
        try simp only [Act.put, List.setIfInBounds_toArray, List.set_cons_zero, List.set_cons_succ]
        refine wpAnyH_ready (rs := [1]) (by kernel_rfl) (by simp) ?_
        refine AllReadyH.cons (o := { dst := some 35, op := Go.Op.buildSlice 23 0 #[], type := 23, pos := "disk.go:173", after := #[], guard := none }) rfl (fun K hK => ?_) AllReadyH.nil
        go_simp
        obtain ⟨wA, hwA⟩ : ∃ wA, w2.alloc (.cells #[] 5) = wA := ⟨_, rfl⟩
        rw [hwA]
        have bA : Below w2.heap.size w2 wA := by rw [← hwA]; exact below_refl_alloc _ _
        have k2A : wA.cell? ⟨g, i * 3 + 2, none⟩ = some (.int .i64 (f.l : Int)) := (bA.cell (p := ⟨g, i * 3 + 2, none⟩) hgl).trans k22
        have k1A : wA.cell? ⟨g, i * 3 + 1, none⟩ = some (.slice f.A f.b.length f.c) := (bA.cell (p := ⟨g, i * 3 + 1, none⟩) hgl).trans k12
        refine hK.out _ _ (k2A) (fun hHeld => ?_)
        clear hK K
        try simp only [Act.put, List.setIfInBounds_toArray, List.set_cons_zero, List.set_cons_succ]
        refine wpAnyH_ready (rs := [16]) (by kernel_rfl) (by simp) ?_
        refine AllReadyH.cons (o := { dst := some 50, op := Go.Op.call { callee := Go.Callee.builtin Go.Builtin.append, args := #[Go.Operand.tmp 35, Go.Operand.tmp 49], argTypes := #[23, 23] }, type := 23, pos := "disk.go:173", after := #[{ on := 1, ground := Go.Ground.data }, { on := 15, ground := Go.Ground.data }], guard := none }) rfl (fun K hK => ?_) AllReadyH.nil
        rw [if_pos (by rfl)]
        refine wpB_append_op (.tmp 35) (.tmp 49) rfl w2.heap.size _ 0 [] rfl (by rw [← hwA]; exact own_empty w2 _ _) w2.heap.size f.A q f.c (f.b.take q) rfl (hbs2.out.below bA) q (f.b.take q) (by omega) rfl (by omega) bA.size ?_
        intro A7 c7 w7 o7 b7 hc7 hm7
        have b27 : Below w2.heap.size w2 w7 := bA.trans b7
        have k27 : w7.cell? ⟨g, i * 3 + 2, none⟩ = some (.int .i64 (f.l : Int)) := (b27.cell (p := ⟨g, i * 3 + 2, none⟩) hgl).trans k22
        have k17 : w7.cell? ⟨g, i * 3 + 1, none⟩ = some (.slice f.A f.b.length f.c) := (b27.cell (p := ⟨g, i * 3 + 1, none⟩) hgl).trans k12
        have fz7 : w7.frozen? ⟨g, i * 3 + 1, none⟩ = false := by
          obtain ⟨cs, hb⟩ := (HD2.out.below b27).row_blk HG.out
          exact hb.free _
        refine hK.out _ _ (k27) (fun hHeld => ?_)
        clear hK K
        try simp only [Act.put, List.setIfInBounds_toArray, List.set_cons_zero, List.set_cons_succ]
        refine wpAnyH_take (i := 17) (oi := { dst := some 51, op := Go.Op.nilCheck (Go.Operand.tmp 34), type := 0, pos := "disk.go:173", after := #[{ on := 0, ground := Go.Ground.data }, { on := 0, ground := Go.Ground.phase }, { on := 1, ground := Go.Ground.phase }, { on := 2, ground := Go.Ground.phase }, { on := 3, ground := Go.Ground.phase }, { on := 4, ground := Go.Ground.phase }, { on := 5, ground := Go.Ground.phase }, { on := 6, ground := Go.Ground.phase }, { on := 7, ground := Go.Ground.phase }, { on := 8, ground := Go.Ground.phase }, { on := 9, ground := Go.Ground.phase }, { on := 10, ground := Go.Ground.phase }, { on := 11, ground := Go.Ground.phase }, { on := 12, ground := Go.Ground.phase }, { on := 13, ground := Go.Ground.phase }, { on := 14, ground := Go.Ground.phase }, { on := 15, ground := Go.Ground.phase }, { on := 16, ground := Go.Ground.phase }], guard := none }) (v := ?_) rfl (by kernel_rfl) (by kernel_rfl) (by kernel_rfl) (fun _ _ _ h => h) (Or.inl ⟨by rfl, ?_⟩) (by assumption) ?_
        rotate_left
        · (intro w hSw; (try dsimp only at hSw); go_simp; try with_reducible rfl)
        try simp only [Act.put, List.setIfInBounds_toArray, List.set_cons_zero, List.set_cons_succ]
        refine wpAnyH_take (i := 18) (oi := { dst := some 52, op := Go.Op.fieldAddr 78 (Go.Operand.tmp 51) 1, type := 0, pos := "disk.go:173", after := #[{ on := 17, ground := Go.Ground.data }, { on := 0, ground := Go.Ground.phase }, { on := 1, ground := Go.Ground.phase }, { on := 2, ground := Go.Ground.phase }, { on := 3, ground := Go.Ground.phase }, { on := 4, ground := Go.Ground.phase }, { on := 5, ground := Go.Ground.phase }, { on := 6, ground := Go.Ground.phase }, { on := 7, ground := Go.Ground.phase }, { on := 8, ground := Go.Ground.phase }, { on := 9, ground := Go.Ground.phase }, { on := 10, ground := Go.Ground.phase }, { on := 11, ground := Go.Ground.phase }, { on := 12, ground := Go.Ground.phase }, { on := 13, ground := Go.Ground.phase }, { on := 14, ground := Go.Ground.phase }, { on := 15, ground := Go.Ground.phase }, { on := 16, ground := Go.Ground.phase }], guard := none }) (v := ?_) rfl (by kernel_rfl) (by kernel_rfl) (by kernel_rfl) (fun _ _ _ h => h) (Or.inl ⟨by rfl, ?_⟩) (by assumption) ?_
        rotate_left
        · (intro w hSw; (try dsimp only at hSw); go_simp; try with_reducible rfl)
        try simp only [Act.put, List.setIfInBounds_toArray, List.set_cons_zero, List.set_cons_succ]
        refine wpAnyH_ready (rs := [19]) (by kernel_rfl) (by simp) ?_
        refine AllReadyH.cons (o := { dst := none, op := Go.Op.store 23 (Go.Operand.tmp 52) (Go.Operand.tmp 50), type := 0, pos := "disk.go:173", after := #[{ on := 18, ground := Go.Ground.data }, { on := 16, ground := Go.Ground.data }, { on := 16, ground := Go.Ground.chain }, { on := 0, ground := Go.Ground.phase }, { on := 1, ground := Go.Ground.phase }, { on := 2, ground := Go.Ground.phase }, { on := 3, ground := Go.Ground.phase }, { on := 4, ground := Go.Ground.phase }, { on := 5, ground := Go.Ground.phase }, { on := 6, ground := Go.Ground.phase }, { on := 7, ground := Go.Ground.phase }, { on := 8, ground := Go.Ground.phase }, { on := 9, ground := Go.Ground.phase }, { on := 10, ground := Go.Ground.phase }, { on := 11, ground := Go.Ground.phase }, { on := 12, ground := Go.Ground.phase }, { on := 13, ground := Go.Ground.phase }, { on := 14, ground := Go.Ground.phase }, { on := 15, ground := Go.Ground.phase }, { on := 16, ground := Go.Ground.phase }], guard := none }) rfl (fun K hK => ?_) AllReadyH.nil
        go_simp
        obtain ⟨w8, hw8⟩ : ∃ w8, w7.setCell ⟨g, i * 3 + 1, none⟩ (.slice A7 q c7) = w8 := ⟨_, rfl⟩
        rw [hw8]
        have k28 : w8.cell? ⟨g, i * 3 + 2, none⟩ = some (.int .i64 (f.l : Int)) := by rw [← hw8]; exact (World.cell?_setCell_other _ _ _ _ (by simp)).trans k27
        refine hK.out _ _ (k28) (fun hHeld => ?_)
        clear hK K
        try simp only [Act.put, List.setIfInBounds_toArray, List.set_cons_zero, List.set_cons_succ]
        refine wpAnyH_done (by kernel_rfl) ?_ _
        all_goals (
          clear hHeld
          have k18 : w8.cell? ⟨g, i * 3 + 1, none⟩ = some (.slice A7 q c7) := by
            rw [← hw8]; exact World.cell?_setCell_same _ _ _ k17
          have fz8 : w8.frozen? ⟨g, i * 3 + 2, none⟩ = false := by
            obtain ⟨cs, hb⟩ := (HD2.out.below b27).row_blk HG.out
            rw [← hw8]
            exact (hb.set _ _).free _
          have hlen7 : (f.b.take q).length = q := by rw [List.length_take, Nat.min_eq_left hql]
          have hrow8 : w8.ownsRow base 78 3 X1.v X1.L.length ((X1.L.set i ⟨f.s, A7, c7, f.b.take q, f.l⟩).flatMap rcells) := by
            rw [← hw8]
            exact row_store (HD2.out.below b27).row HG.out HF.out (j := 1) (by omega) (by simp only [rcells, RFE.v, hlen7]; rfl)
          have H8 := Lib.hid (And.intro hrow8 (And.intro (show Row w7 (.slice A7 q c7) (f.b.take q) from row_of_own o7) (And.intro (show ∀ p, (Value.slice A7 q c7).ownBlock = some p → w2.heap.size ≤ p ∧ p ≠ g from fun p hp => ⟨(o7.lt p hp).1, fun e => by have := (o7.lt p hp).1; omega⟩) (And.intro b27 (And.intro hw8 hlen7)))))
          clear hrow8 hlen7 o7 b27 b7 bA k27 k17 k2A k1A fz7 hwA hw8
          go_wp2_with fail
          have hW9 : ∃ W9, w8.setCell ⟨g, i * 3 + 2, none⟩ (.int .i64 (q : Int)) = W9 := ⟨_, rfl⟩
          obtain ⟨W9, hW9⟩ := hW9
          rw [hW9]
          have hlt9 : (X1.L.set i ⟨f.s, A7, c7, f.b.take q, f.l⟩)[i]? = some ⟨f.s, A7, c7, f.b.take q, f.l⟩ := by rw [List.getElem?_set_self (List.getElem?_eq_some_iff.1 HF.out).1]
          have hrow9 : W9.ownsRow base 78 3 X1.v X1.L.length ((X1.L.set i ⟨f.s, A7, c7, f.b.take q, q⟩).flatMap rcells) := by
            rw [← hW9]
            have := row_store (u := .int .i64 (q : Int)) (f' := ⟨f.s, A7, c7, f.b.take q, q⟩) H8.out.1 HG.out hlt9 (j := 2) (by omega) rfl
            rwa [List.set_set] at this
          have ht : Turn [g] w2 W9 := by
            rw [← hW9]
            have h1 : Turn [g] w2 w8 := by
              rw [← H8.out.2.2.2.2.1]
              exact (Turn.of_below H8.out.2.2.2.1).trans (Turn.set (B := [g]) (.inl (by simp))) (fun p hp => .inl hp)
            exact h1.trans (Turn.set (B := [g]) (.inl (by simp))) (fun p hp => .inl hp)
          have e9 : (⟨f.s, A7, c7, f.b.take q, q⟩ : RFE).v = .slice A7 q c7 := by unfold RFE.v; simp only [H8.out.2.2.2.2.2]
          have hrE : Row W9 (⟨f.s, A7, c7, f.b.take q, q⟩ : RFE).v (f.b.take q) := by
            rw [e9]
            refine H8.out.2.1.keep fun p hp => ?_
            have hpg := (H8.out.2.2.1 p hp).2
            rw [← hW9]
            refine (Below.heap_setCell _ _ _ _ hpg).trans ?_
            rw [← H8.out.2.2.2.2.1]
            exact Below.heap_setCell _ _ _ _ hpg
          have hbE : ∀ p, (⟨f.s, A7, c7, f.b.take q, q⟩ : RFE).v.ownBlock = some p → w2.heap.size ≤ p := fun p hp => by rw [e9] at hp; exact (H8.out.2.2.1 p hp).1
          have hX1 := HD2.out.set_row (f' := ⟨f.s, A7, c7, f.b.take q, q⟩) HG.out HF.out ht hrow9 ⟨hrE, by simp only [H8.out.2.2.2.2.2]; exact Nat.le_refl _, HFL.out.2.2⟩ (fun p hp => Nat.le_trans HD2.out.base_le (hbE p hp)) (by simp only [H8.out.2.2.2.2.2]; have := HD2.out.room; omega)
          have HX : Hid (RW W9 base r { X1 with L := X1.L.set i ⟨f.s, A7, c7, f.b.take q, q⟩ } ∧ Turn (X.bl r) w W9 ∧ ∀ p ∈ ({ X1 with L := X1.L.set i ⟨f.s, A7, c7, f.b.take q, q⟩ } : RDS).bl r, p ∈ X.bl r ∨ w.heap.size ≤ p) := by
            refine ⟨hX1, HT2.out.trans ht (fun p hp => HBL.out p (by simp at hp; subst hp; exact rbl_v HG.out)), fun p hp => ?_⟩
            rcases bl_set HF.out p hp with h1 | h1
            · exact HBL.out p h1
            · exact .inr (Nat.le_trans HT2.out.size (hbE p h1))
          clear hX1 hbE hrE e9 ht hrow9 hlt9 hW9 k18 fz8 k28
          go_roundw
          case rel =>
            refine ⟨i + 1, { X1 with L := X1.L.set i ⟨f.s, A7, c7, f.b.take q, q⟩ }, by omega, by go_num, HX.out.1, HX.out.2.1, HX.out.2.2, ?_⟩
            exact HREL.out A7 c7
          case measure => simp [intOf]; omega)
      · have hin : i = n := by omega
        have hcc := HD.out.cell
        have c1 : wr.cell? ⟨r, 1, none⟩ = some (.slice X1.A n X1.c) := by have h9 := HD.out.cell; unfold rdcells RDS.v at h9; have h8 := h9.cell 1; rw [hln1] at h8; exact h8
        have c2 : wr.cell? ⟨r, 2, none⟩ = some (.int .i64 X1.left) := hcc.cell 2
        have f2 := hcc.free 2
        have HS := Lib.hid (HD.out.set_left (-1) (by omega) (by omega))
        have q3 : decide ((i : Int) < (n : Int)) = false := decide_eq_false (by omega)
        clear hcc
        go_wp2_with fail
        go_end0
        refine ⟨rfl, { X1 with left := -1 }, HCT.out.1, rfl, ?_, HS.out.1, HT.out.trans HS.out.2 (fun p hp => HBL.out p hp), fun p hp => HBL.out p hp⟩
        have h1 := HCT.out.2.2.2
        rw [List.take_of_length_le (by rw [← HN.out]; omega), List.drop_of_length_le (by rw [← HN.out]; omega)] at h1
        simpa using h1
  · obtain rfl : k = 0 := by rw [if_neg (by omega)] at hk; omega
    clear hk
    go_enter Try.func44, Try.ntmps44
    go_wp2_with fail
    go_loopw [4] (fun s4 wr => ∃ (i : Nat) (X1 : RDS), i ≤ n ∧ s4 = .int .i64 (i : Int) ∧ Hid (RW wr base r X1) ∧ Hid (Turn (X.bl r) w wr) ∧ Hid (∀ p ∈ X1.bl r, p ∈ X.bl r ∨ w.heap.size ≤ p) ∧ Hid (CutTo X X1 0 i)) (fun s4 _ => n - (intOf s4).toNat)
    case atStart => exact ⟨0, X, Nat.zero_le _, rfl, H.out, Turn.refl _ _, fun p hp => .inl hp, rfl, rfl, rfl, by simp⟩
    case round =>
      obtain ⟨i, X1, hi, rfl, HD, HT, HBL, HCT⟩ := hrel
      have hln1 : X1.L.length = n := by rw [HCT.out.2.2.1, HN.out]
      have hcap1 := HD.out.cap
      rw [hln1] at hcap1
      by_cases hlt : i < n
      · obtain ⟨g, f, hA, hg, hf, hm, k0, k1, k2, hfr, hc1, hc2⟩ := HD.out.at_ (show i < X1.L.length by rw [hln1]; exact hlt)
        have c1 : wr.cell? ⟨r, 1, none⟩ = some (.slice (some ⟨g, 0, none⟩) n X1.c) := by have h9 := HD.out.cell; unfold rdcells RDS.v at h9; have h8 := h9.cell 1; rw [hA, hln1] at h8; exact h8
        have HG := Lib.hid hg
        have HF := Lib.hid hf
        have HFL := Lib.hid (HD.out.file f hm)
        have hlb := HFL.out.2.1
        have hble : f.b.length ≤ 1073741824 := by
          have h1 := HD.out.room
          have h2 : f.b.length ≤ X1.used := by
            have : ∀ L : List RFE, f ∈ L → f.b.length ≤ (L.map fun f => f.b.length).sum := by
              intro L
              induction L with
              | nil => intro h; simp at h
              | cons x r ih =>
                intro h
                simp only [List.map_cons, List.sum_cons]
                rcases List.mem_cons.1 h with rfl | h3
                · omega
                · have := ih h3; omega
            exact this X1.L hm
          omega
        obtain ⟨U, hU⟩ : ∃ U, U = f.b.length - f.l := ⟨_, rfl⟩
        have hsub : (f.b.length : Int) - (f.l : Int) = (U : Int) := by omega
        have hwU : IntKind.i64.wrap ((U : Int) + 1) = (U : Int) + 1 := IntWalk.i64_in _ ⟨by omega, by omega⟩
        have hnz : ¬ ((U : Int) + 1 = 0) := by omega
        obtain ⟨rr, hrr⟩ : ∃ rr, rr = 0 % (U + 1) := ⟨_, rfl⟩
        have hrl9 : rr ≤ U := by have := Nat.mod_lt 0 (show U + 1 > 0 by omega); omega
        have hql : f.l ≤ f.b.length := by omega
        have hqs : Hid (f.l = stayN 0 f.b f.l) := by show _ = _; unfold stayN; simp
        have hfc : f.b.length ≤ f.c ∧ f.c ≤ 9223372036854775807 := by
          obtain ⟨A9, c9, e9, h8, h9⟩ := HFL.out.1.form
          unfold RFE.v at e9
          injection e9 with _ _ e9
          rw [e9]; exact ⟨h8, h9⟩
        have q7 : (f.l : Int) ≤ (f.c : Int) := by omega
        have q8 : (0 : Int) ≤ (f.l : Int) := by omega
        have hwq : IntKind.i64.wrap (f.l : Int) = (f.l : Int) := IntWalk.i64_in _ ⟨by omega, by omega⟩
        have HREL : Hid (∀ A c, CutTo X { X1 with L := X1.L.set i ⟨f.s, A, c, f.b.take f.l, f.l⟩ } 0 (i + 1)) := fun A c => by rw [hqs.out]; exact cut_next HCT.out HF.out A c
        clear hg hf hm hfr hU hrr hqs hA k0
        go_wp2_with fail
        go_quiet (fail)
        obtain ⟨w1, hw1⟩ : ∃ w1, wr.drewN nq = w1 := ⟨_, rfl⟩
        rw [hw1]
        have hd1 : RW w1 base r X1 := by rw [← hw1]; exact HD.out.keep (fun _ _ => rfl) (Nat.le_refl _)
        have ht1 : Turn (X.bl r) w w1 := by rw [← hw1]; exact HT.out.drewN nq
        have k11 : w1.cell? ⟨g, i * 3 + 1, none⟩ = some (.slice f.A f.b.length f.c) := by rw [← hw1]; exact k1
        have k21 : w1.cell? ⟨g, i * 3 + 2, none⟩ = some (.int .i64 (f.l : Int)) := by rw [← hw1]; exact k2
        go_wp2_with fail
        refine wp_region_held_drew (S := fun w' => w'.cell? ⟨g, i * 3 + 2, none⟩ = some (.int .i64 (f.l : Int))) (by kernel_rfl) (k21) (fun hHeld => ?_)
        obtain ⟨w2, hw2⟩ : ∃ w2, w1.drew = w2 := ⟨_, rfl⟩
        rw [hw2] at hHeld ⊢
        have hd2 : RW w2 base r X1 := by rw [← hw2]; exact hd1.keep (fun _ _ => rfl) (Nat.le_refl _)
        have HT2 : Hid (Turn (X.bl r) w w2) := by show Turn _ _ _; rw [← hw2]; exact ht1.drewN 1
        have k12 : w2.cell? ⟨g, i * 3 + 1, none⟩ = some (.slice f.A f.b.length f.c) := by rw [← hw2]; exact k11
        have k22 : w2.cell? ⟨g, i * 3 + 2, none⟩ = some (.int .i64 (f.l : Int)) := by rw [← hw2]; exact k21
        have hgl : g < w2.heap.size := (hd2.ge g (rbl_v HG.out)).2
        have hbs2 : Hid (Bs w2 w2.heap.size f.A f.l (f.b.take f.l)) := ((hd2.file f (List.mem_of_getElem? HF.out)).1.bs).take hql
        have HD2 := Lib.hid hd2
        clear hd1 ht1 hd2 hw1 hw2 k11 k21 k1 k2 c1
        refine wpAnyH_take (i := 0) (oi := { dst := some 34, op := Go.Op.move (Go.Operand.tmp 5), type := 92, pos := "disk.go:173", after := #[], guard := none }) (v := ?_) rfl (by kernel_rfl) (by kernel_rfl) (by kernel_rfl) (fun _ _ _ h => h) (Or.inl ⟨by rfl, ?_⟩) (by assumption) ?_
        rotate_left
        · (intro w hSw; (try dsimp only at hSw); go_simp; try with_reducible rfl)
        try simp only [Act.put, List.setIfInBounds_toArray, List.set_cons_zero, List.set_cons_succ]
        refine wpAnyH_take (i := 2) (oi := { dst := some 36, op := Go.Op.move (Go.Operand.tmp 5), type := 92, pos := "disk.go:173", after := #[], guard := none }) (v := ?_) rfl (by kernel_rfl) (by kernel_rfl) (by kernel_rfl) (fun _ _ _ h => h) (Or.inl ⟨by rfl, ?_⟩) (by assumption) ?_
        rotate_left
        · (intro w hSw; (try dsimp only at hSw); go_simp; try with_reducible rfl)
        try simp only [Act.put, List.setIfInBounds_toArray, List.set_cons_zero, List.set_cons_succ]
        refine wpAnyH_take (i := 3) (oi := { dst := some 37, op := Go.Op.nilCheck (Go.Operand.tmp 36), type := 0, pos := "disk.go:173", after := #[{ on := 2, ground := Go.Ground.data }], guard := none }) (v := ?_) rfl (by kernel_rfl) (by kernel_rfl) (by kernel_rfl) (fun _ _ _ h => h) (Or.inl ⟨by rfl, ?_⟩) (by assumption) ?_
        rotate_left
        · (intro w hSw; (try dsimp only at hSw); go_simp; try with_reducible rfl)
        try simp only [Act.put, List.setIfInBounds_toArray, List.set_cons_zero, List.set_cons_succ]
        refine wpAnyH_take (i := 4) (oi := { dst := some 38, op := Go.Op.fieldAddr 78 (Go.Operand.tmp 37) 1, type := 0, pos := "disk.go:173", after := #[{ on := 3, ground := Go.Ground.data }], guard := none }) (v := ?_) rfl (by kernel_rfl) (by kernel_rfl) (by kernel_rfl) (fun _ _ _ h => h) (Or.inl ⟨by rfl, ?_⟩) (by assumption) ?_
        rotate_left
        · (intro w hSw; (try dsimp only at hSw); go_simp; try with_reducible rfl)
        try simp only [Act.put, List.setIfInBounds_toArray, List.set_cons_zero, List.set_cons_succ]
        refine wpAnyH_take (i := 6) (oi := { dst := some 40, op := Go.Op.move (Go.Operand.tmp 5), type := 92, pos := "disk.go:173", after := #[], guard := none }) (v := ?_) rfl (by kernel_rfl) (by kernel_rfl) (by kernel_rfl) (fun _ _ _ h => h) (Or.inl ⟨by rfl, ?_⟩) (by assumption) ?_
        rotate_left
        · (intro w hSw; (try dsimp only at hSw); go_simp; try with_reducible rfl)
        try simp only [Act.put, List.setIfInBounds_toArray, List.set_cons_zero, List.set_cons_succ]
        refine wpAnyH_take (i := 7) (oi := { dst := some 41, op := Go.Op.nilCheck (Go.Operand.tmp 40), type := 0, pos := "disk.go:173", after := #[{ on := 6, ground := Go.Ground.data }], guard := none }) (v := ?_) rfl (by kernel_rfl) (by kernel_rfl) (by kernel_rfl) (fun _ _ _ h => h) (Or.inl ⟨by rfl, ?_⟩) (by assumption) ?_
        rotate_left
        · (intro w hSw; (try dsimp only at hSw); go_simp; try with_reducible rfl)
        try simp only [Act.put, List.setIfInBounds_toArray, List.set_cons_zero, List.set_cons_succ]
        refine wpAnyH_take (i := 8) (oi := { dst := some 42, op := Go.Op.fieldAddr 78 (Go.Operand.tmp 41) 2, type := 0, pos := "disk.go:173", after := #[{ on := 7, ground := Go.Ground.data }], guard := none }) (v := ?_) rfl (by kernel_rfl) (by kernel_rfl) (by kernel_rfl) (fun _ _ _ h => h) (Or.inl ⟨by rfl, ?_⟩) (by assumption) ?_
        rotate_left
        · (intro w hSw; (try dsimp only at hSw); go_simp; try with_reducible rfl)
        try simp only [Act.put, List.setIfInBounds_toArray, List.set_cons_zero, List.set_cons_succ]
        refine wpAnyH_take (i := 9) (oi := { dst := some 43, op := Go.Op.load 3 (Go.Operand.tmp 42), type := 3, pos := "disk.go:173", after := #[{ on := 8, ground := Go.Ground.data }], guard := none }) (v := ?_) rfl (by kernel_rfl) (by kernel_rfl) (by kernel_rfl) (fun _ _ _ h => h) (Or.inl ⟨by rfl, ?_⟩) (by assumption) ?_
        rotate_left
        · (intro w hSw; (try dsimp only at hSw); go_simp; try with_reducible rfl)
        try simp only [Act.put, List.setIfInBounds_toArray, List.set_cons_zero, List.set_cons_succ]
        refine wpAnyH_take (i := 10) (oi := { dst := some 44, op := Go.Op.move (Go.Operand.tmp 1), type := 3, pos := "disk.go:173", after := #[], guard := none }) (v := ?_) rfl (by kernel_rfl) (by kernel_rfl) (by kernel_rfl) (fun _ _ _ h => h) (Or.inl ⟨by rfl, ?_⟩) (by assumption) ?_
        rotate_left
        · (intro w hSw; (try dsimp only at hSw); go_simp; try with_reducible rfl)
        try simp only [Act.put, List.setIfInBounds_toArray, List.set_cons_zero, List.set_cons_succ]
        refine wpAnyH_take (i := 11) (oi := { dst := some 45, op := Go.Op.move (Go.Operand.tmp 6), type := 3, pos := "disk.go:173", after := #[], guard := none }) (v := ?_) rfl (by kernel_rfl) (by kernel_rfl) (by kernel_rfl) (fun _ _ _ h => h) (Or.inl ⟨by rfl, ?_⟩) (by assumption) ?_
        rotate_left
        · (intro w hSw; (try dsimp only at hSw); go_simp; try with_reducible rfl)
        try simp only [Act.put, List.setIfInBounds_toArray, List.set_cons_zero, List.set_cons_succ]
        refine wpAnyH_take (i := 12) (oi := { dst := some 46, op := Go.Op.binOp Go.BinOp.add 3 (Go.Operand.tmp 45) (Go.Operand.const (Go.Value.int Go.IntKind.i64 1)) 3, type := 3, pos := "disk.go:173", after := #[{ on := 11, ground := Go.Ground.data }], guard := none }) (v := ?_) rfl (by kernel_rfl) (by kernel_rfl) (by kernel_rfl) (fun _ _ _ h => h) (Or.inl ⟨by rfl, ?_⟩) (by assumption) ?_
        rotate_left
        · (intro w hSw; (try dsimp only at hSw); go_simp; try with_reducible rfl)
        try simp only [Act.put, List.setIfInBounds_toArray, List.set_cons_zero, List.set_cons_succ]
        refine wpAnyH_take (i := 13) (oi := { dst := some 47, op := Go.Op.binOp Go.BinOp.rem 3 (Go.Operand.tmp 44) (Go.Operand.tmp 46) 3, type := 3, pos := "disk.go:173", after := #[{ on := 10, ground := Go.Ground.data }, { on := 12, ground := Go.Ground.data }], guard := none }) (v := ?_) rfl (by kernel_rfl) (by kernel_rfl) (by kernel_rfl) (fun _ _ _ h => h) (Or.inl ⟨by rfl, ?_⟩) (by assumption) ?_
        rotate_left
        · (intro w hSw; (try dsimp only at hSw); go_simp; try with_reducible rfl)
        try simp only [Act.put, List.setIfInBounds_toArray, List.set_cons_zero, List.set_cons_succ]
        refine wpAnyH_take (i := 14) (oi := { dst := some 48, op := Go.Op.binOp Go.BinOp.add 3 (Go.Operand.tmp 43) (Go.Operand.tmp 47) 3, type := 3, pos := "disk.go:173", after := #[{ on := 9, ground := Go.Ground.data }, { on := 13, ground := Go.Ground.data }], guard := none }) (v := ?_) rfl (by kernel_rfl) (by kernel_rfl) (by kernel_rfl) (fun _ _ _ h => h) (Or.inl ⟨by rfl, ?_⟩) (by assumption) ?_
        rotate_left
        · (intro w hSw; (try dsimp only at hSw); go_simp; try with_reducible rfl)
        try simp only [Act.put, List.setIfInBounds_toArray, List.set_cons_zero, List.set_cons_succ]
        refine wpAnyH_ready (rs := [1, 5]) (by kernel_rfl) (by simp) ?_
        refine AllReadyH.cons (o := { dst := some 35, op := Go.Op.buildSlice 23 0 #[], type := 23, pos := "disk.go:173", after := #[], guard := none }) rfl (fun K hK => ?_) ?_
        go_simp
        obtain ⟨wA, hwA⟩ : ∃ wA, w2.alloc (.cells #[] 5) = wA := ⟨_, rfl⟩
        rw [hwA]
        have bA : Below w2.heap.size w2 wA := by rw [← hwA]; exact below_refl_alloc _ _
        have k2A : wA.cell? ⟨g, i * 3 + 2, none⟩ = some (.int .i64 (f.l : Int)) := (bA.cell (p := ⟨g, i * 3 + 2, none⟩) hgl).trans k22
        have k1A : wA.cell? ⟨g, i * 3 + 1, none⟩ = some (.slice f.A f.b.length f.c) := (bA.cell (p := ⟨g, i * 3 + 1, none⟩) hgl).trans k12
        refine hK.out _ _ (k2A) (fun hHeld => ?_)
        clear hK K
        try simp only [Act.put, List.setIfInBounds_toArray, List.set_cons_zero, List.set_cons_succ]
        refine wpAnyH_ready (rs := [5]) (by kernel_rfl) (by simp) ?_
        refine AllReadyH.cons (o := { dst := some 39, op := Go.Op.load 23 (Go.Operand.tmp 38), type := 23, pos := "disk.go:173", after := #[{ on := 4, ground := Go.Ground.data }], guard := none }) rfl (fun K hK => ?_) AllReadyH.nil
        go_simp
        refine hK.out _ _ (k2A) (fun hHeld => ?_)
        clear hK K
        try simp only [Act.put, List.setIfInBounds_toArray, List.set_cons_zero, List.set_cons_succ]
        refine wpAnyH_take (i := 15) (oi := { dst := some 49, op := Go.Op.slice 23 (Go.Operand.tmp 39) none (some (Go.Operand.tmp 48)) none, type := 23, pos := "disk.go:173", after := #[{ on := 5, ground := Go.Ground.data }, { on := 14, ground := Go.Ground.data }], guard := none }) (v := ?_) rfl (by kernel_rfl) (by kernel_rfl) (by kernel_rfl) (fun _ _ _ h => h) (Or.inl ⟨by rfl, ?_⟩) (by assumption) ?_
        rotate_left
        · (intro w hSw; (try dsimp only at hSw); go_simp; try with_reducible rfl)
        try simp only [Act.put, List.setIfInBounds_toArray, List.set_cons_zero, List.set_cons_succ]
        refine wpAnyH_ready (rs := [16]) (by kernel_rfl) (by simp) ?_
        refine AllReadyH.cons (o := { dst := some 50, op := Go.Op.call { callee := Go.Callee.builtin Go.Builtin.append, args := #[Go.Operand.tmp 35, Go.Operand.tmp 49], argTypes := #[23, 23] }, type := 23, pos := "disk.go:173", after := #[{ on := 1, ground := Go.Ground.data }, { on := 15, ground := Go.Ground.data }], guard := none }) rfl (fun K hK => ?_) AllReadyH.nil
        rw [if_pos (by rfl)]
        refine wpB_append_op (.tmp 35) (.tmp 49) rfl w2.heap.size _ 0 [] rfl (by rw [← hwA]; exact own_empty w2 _ _) w2.heap.size f.A f.l f.c (f.b.take f.l) rfl (hbs2.out.below bA) f.l (f.b.take f.l) (by omega) rfl (by omega) bA.size ?_
        intro A7 c7 w7 o7 b7 hc7 hm7
        have b27 : Below w2.heap.size w2 w7 := bA.trans b7
        have k27 : w7.cell? ⟨g, i * 3 + 2, none⟩ = some (.int .i64 (f.l : Int)) := (b27.cell (p := ⟨g, i * 3 + 2, none⟩) hgl).trans k22
        have k17 : w7.cell? ⟨g, i * 3 + 1, none⟩ = some (.slice f.A f.b.length f.c) := (b27.cell (p := ⟨g, i * 3 + 1, none⟩) hgl).trans k12
        have fz7 : w7.frozen? ⟨g, i * 3 + 1, none⟩ = false := by
          obtain ⟨cs, hb⟩ := (HD2.out.below b27).row_blk HG.out
          exact hb.free _
        refine hK.out _ _ (k27) (fun hHeld => ?_)
        clear hK K
        try simp only [Act.put, List.setIfInBounds_toArray, List.set_cons_zero, List.set_cons_succ]
        refine wpAnyH_take (i := 17) (oi := { dst := some 51, op := Go.Op.nilCheck (Go.Operand.tmp 34), type := 0, pos := "disk.go:173", after := #[{ on := 0, ground := Go.Ground.data }, { on := 0, ground := Go.Ground.phase }, { on := 1, ground := Go.Ground.phase }, { on := 2, ground := Go.Ground.phase }, { on := 3, ground := Go.Ground.phase }, { on := 4, ground := Go.Ground.phase }, { on := 5, ground := Go.Ground.phase }, { on := 6, ground := Go.Ground.phase }, { on := 7, ground := Go.Ground.phase }, { on := 8, ground := Go.Ground.phase }, { on := 9, ground := Go.Ground.phase }, { on := 10, ground := Go.Ground.phase }, { on := 11, ground := Go.Ground.phase }, { on := 12, ground := Go.Ground.phase }, { on := 13, ground := Go.Ground.phase }, { on := 14, ground := Go.Ground.phase }, { on := 15, ground := Go.Ground.phase }, { on := 16, ground := Go.Ground.phase }], guard := none }) (v := ?_) rfl (by kernel_rfl) (by kernel_rfl) (by kernel_rfl) (fun _ _ _ h => h) (Or.inl ⟨by rfl, ?_⟩) (by assumption) ?_
        rotate_left
        · (intro w hSw; (try dsimp only at hSw); go_simp; try with_reducible rfl)
        try simp only [Act.put, List.setIfInBounds_toArray, List.set_cons_zero, List.set_cons_succ]
        refine wpAnyH_take (i := 18) (oi := { dst := some 52, op := Go.Op.fieldAddr 78 (Go.Operand.tmp 51) 1, type := 0, pos := "disk.go:173", after := #[{ on := 17, ground := Go.Ground.data }, { on := 0, ground := Go.Ground.phase }, { on := 1, ground := Go.Ground.phase }, { on := 2, ground := Go.Ground.phase }, { on := 3, ground := Go.Ground.phase }, { on := 4, ground := Go.Ground.phase }, { on := 5, ground := Go.Ground.phase }, { on := 6, ground := Go.Ground.phase }, { on := 7, ground := Go.Ground.phase }, { on := 8, ground := Go.Ground.phase }, { on := 9, ground := Go.Ground.phase }, { on := 10, ground := Go.Ground.phase }, { on := 11, ground := Go.Ground.phase }, { on := 12, ground := Go.Ground.phase }, { on := 13, ground := Go.Ground.phase }, { on := 14, ground := Go.Ground.phase }, { on := 15, ground := Go.Ground.phase }, { on := 16, ground := Go.Ground.phase }], guard := none }) (v := ?_) rfl (by kernel_rfl) (by kernel_rfl) (by kernel_rfl) (fun _ _ _ h => h) (Or.inl ⟨by rfl, ?_⟩) (by assumption) ?_
        rotate_left
        · (intro w hSw; (try dsimp only at hSw); go_simp; try with_reducible rfl)
        try simp only [Act.put, List.setIfInBounds_toArray, List.set_cons_zero, List.set_cons_succ]
        refine wpAnyH_ready (rs := [19]) (by kernel_rfl) (by simp) ?_
        refine AllReadyH.cons (o := { dst := none, op := Go.Op.store 23 (Go.Operand.tmp 52) (Go.Operand.tmp 50), type := 0, pos := "disk.go:173", after := #[{ on := 18, ground := Go.Ground.data }, { on := 16, ground := Go.Ground.data }, { on := 16, ground := Go.Ground.chain }, { on := 0, ground := Go.Ground.phase }, { on := 1, ground := Go.Ground.phase }, { on := 2, ground := Go.Ground.phase }, { on := 3, ground := Go.Ground.phase }, { on := 4, ground := Go.Ground.phase }, { on := 5, ground := Go.Ground.phase }, { on := 6, ground := Go.Ground.phase }, { on := 7, ground := Go.Ground.phase }, { on := 8, ground := Go.Ground.phase }, { on := 9, ground := Go.Ground.phase }, { on := 10, ground := Go.Ground.phase }, { on := 11, ground := Go.Ground.phase }, { on := 12, ground := Go.Ground.phase }, { on := 13, ground := Go.Ground.phase }, { on := 14, ground := Go.Ground.phase }, { on := 15, ground := Go.Ground.phase }, { on := 16, ground := Go.Ground.phase }], guard := none }) rfl (fun K hK => ?_) AllReadyH.nil
        go_simp
        obtain ⟨w8, hw8⟩ : ∃ w8, w7.setCell ⟨g, i * 3 + 1, none⟩ (.slice A7 f.l c7) = w8 := ⟨_, rfl⟩
        rw [hw8]
        have k28 : w8.cell? ⟨g, i * 3 + 2, none⟩ = some (.int .i64 (f.l : Int)) := by rw [← hw8]; exact (World.cell?_setCell_other _ _ _ _ (by simp)).trans k27
        refine hK.out _ _ (k28) (fun hHeld => ?_)
        clear hK K
        try simp only [Act.put, List.setIfInBounds_toArray, List.set_cons_zero, List.set_cons_succ]
        refine wpAnyH_done (by kernel_rfl) ?_ _
        rotate_left 1
        refine AllReadyH.cons (o := { dst := some 39, op := Go.Op.load 23 (Go.Operand.tmp 38), type := 23, pos := "disk.go:173", after := #[{ on := 4, ground := Go.Ground.data }], guard := none }) rfl (fun K hK => ?_) AllReadyH.nil
        go_simp
        refine hK.out _ _ (k22) (fun hHeld => ?_)
        clear hK K
        try simp only [Act.put, List.setIfInBounds_toArray, List.set_cons_zero, List.set_cons_succ]
        refine wpAnyH_take (i := 15) (oi := { dst := some 49, op := Go.Op.slice 23 (Go.Operand.tmp 39) none (some (Go.Operand.tmp 48)) none, type := 23, pos := "disk.go:173", after := #[{ on := 5, ground := Go.Ground.data }, { on := 14, ground := Go.Ground.data }], guard := none }) (v := ?_) rfl (by kernel_rfl) (by kernel_rfl) (by kernel_rfl) (fun _ _ _ h => h) (Or.inl ⟨by rfl, ?_⟩) (by assumption) ?_
        rotate_left
        · (intro w hSw; (try dsimp only at hSw); go_simp; try with_reducible rfl)
        try simp only [Act.put, List.setIfInBounds_toArray, List.set_cons_zero, List.set_cons_succ]
        refine wpAnyH_ready (rs := [1]) (by kernel_rfl) (by simp) ?_
        refine AllReadyH.cons (o := { dst := some 35, op := Go.Op.buildSlice 23 0 #[], type := 23, pos := "disk.go:173", after := #[], guard := none }) rfl (fun K hK => ?_) AllReadyH.nil
        go_simp
        obtain ⟨wA, hwA⟩ : ∃ wA, w2.alloc (.cells #[] 5) = wA := ⟨_, rfl⟩
        rw [hwA]
        have bA : Below w2.heap.size w2 wA := by rw [← hwA]; exact below_refl_alloc _ _
        have k2A : wA.cell? ⟨g, i * 3 + 2, none⟩ = some (.int .i64 (f.l : Int)) := (bA.cell (p := ⟨g, i * 3 + 2, none⟩) hgl).trans k22
        have k1A : wA.cell? ⟨g, i * 3 + 1, none⟩ = some (.slice f.A f.b.length f.c) := (bA.cell (p := ⟨g, i * 3 + 1, none⟩) hgl).trans k12
        refine hK.out _ _ (k2A) (fun hHeld => ?_)
        clear hK K
        try simp only [Act.put, List.setIfInBounds_toArray, List.set_cons_zero, List.set_cons_succ]
        refine wpAnyH_ready (rs := [16]) (by kernel_rfl) (by simp) ?_
        refine AllReadyH.cons (o := { dst := some 50, op := Go.Op.call { callee := Go.Callee.builtin Go.Builtin.append, args := #[Go.Operand.tmp 35, Go.Operand.tmp 49], argTypes := #[23, 23] }, type := 23, pos := "disk.go:173", after := #[{ on := 1, ground := Go.Ground.data }, { on := 15, ground := Go.Ground.data }], guard := none }) rfl (fun K hK => ?_) AllReadyH.nil
        rw [if_pos (by rfl)]
        refine wpB_append_op (.tmp 35) (.tmp 49) rfl w2.heap.size _ 0 [] rfl (by rw [← hwA]; exact own_empty w2 _ _) w2.heap.size f.A f.l f.c (f.b.take f.l) rfl (hbs2.out.below bA) f.l (f.b.take f.l) (by omega) rfl (by omega) bA.size ?_
        intro A7 c7 w7 o7 b7 hc7 hm7
        have b27 : Below w2.heap.size w2 w7 := bA.trans b7
        have k27 : w7.cell? ⟨g, i * 3 + 2, none⟩ = some (.int .i64 (f.l : Int)) := (b27.cell (p := ⟨g, i * 3 + 2, none⟩) hgl).trans k22
        have k17 : w7.cell? ⟨g, i * 3 + 1, none⟩ = some (.slice f.A f.b.length f.c) := (b27.cell (p := ⟨g, i * 3 + 1, none⟩) hgl).trans k12
        have fz7 : w7.frozen? ⟨g, i * 3 + 1, none⟩ = false := by
          obtain ⟨cs, hb⟩ := (HD2.out.below b27).row_blk HG.out
          exact hb.free _
        refine hK.out _ _ (k27) (fun hHeld => ?_)
        clear hK K
        try simp only [Act.put, List.setIfInBounds_toArray, List.set_cons_zero, List.set_cons_succ]
        refine wpAnyH_take (i := 17) (oi := { dst := some 51, op := Go.Op.nilCheck (Go.Operand.tmp 34), type := 0, pos := "disk.go:173", after := #[{ on := 0, ground := Go.Ground.data }, { on := 0, ground := Go.Ground.phase }, { on := 1, ground := Go.Ground.phase }, { on := 2, ground := Go.Ground.phase }, { on := 3, ground := Go.Ground.phase }, { on := 4, ground := Go.Ground.phase }, { on := 5, ground := Go.Ground.phase }, { on := 6, ground := Go.Ground.phase }, { on := 7, ground := Go.Ground.phase }, { on := 8, ground := Go.Ground.phase }, { on := 9, ground := Go.Ground.phase }, { on := 10, ground := Go.Ground.phase }, { on := 11, ground := Go.Ground.phase }, { on := 12, ground := Go.Ground.phase }, { on := 13, ground := Go.Ground.phase }, { on := 14, ground := Go.Ground.phase }, { on := 15, ground := Go.Ground.phase }, { on := 16, ground := Go.Ground.phase }], guard := none }) (v := ?_) rfl (by kernel_rfl) (by kernel_rfl) (by kernel_rfl) (fun _ _ _ h => h) (Or.inl ⟨by rfl, ?_⟩) (by assumption) ?_
        rotate_left
        · (intro w hSw; (try dsimp only at hSw); go_simp; try with_reducible rfl)
        try simp only [Act.put, List.setIfInBounds_toArray, List.set_cons_zero, List.set_cons_succ]
        refine wpAnyH_take (i := 18) (oi := { dst := some 52, op := Go.Op.fieldAddr 78 (Go.Operand.tmp 51) 1, type := 0, pos := "disk.go:173", after := #[{ on := 17, ground := Go.Ground.data }, { on := 0, ground := Go.Ground.phase }, { on := 1, ground := Go.Ground.phase }, { on := 2, ground := Go.Ground.phase }, { on := 3, ground := Go.Ground.phase }, { on := 4, ground := Go.Ground.phase }, { on := 5, ground := Go.Ground.phase }, { on := 6, ground := Go.Ground.phase }, { on := 7, ground := Go.Ground.phase }, { on := 8, ground := Go.Ground.phase }, { on := 9, ground := Go.Ground.phase }, { on := 10, ground := Go.Ground.phase }, { on := 11, ground := Go.Ground.phase }, { on := 12, ground := Go.Ground.phase }, { on := 13, ground := Go.Ground.phase }, { on := 14, ground := Go.Ground.phase }, { on := 15, ground := Go.Ground.phase }, { on := 16, ground := Go.Ground.phase }], guard := none }) (v := ?_) rfl (by kernel_rfl) (by kernel_rfl) (by kernel_rfl) (fun _ _ _ h => h) (Or.inl ⟨by rfl, ?_⟩) (by assumption) ?_
        rotate_left
        · (intro w hSw; (try dsimp only at hSw); go_simp; try with_reducible rfl)
        try simp only [Act.put, List.setIfInBounds_toArray, List.set_cons_zero, List.set_cons_succ]
        refine wpAnyH_ready (rs := [19]) (by kernel_rfl) (by simp) ?_
        refine AllReadyH.cons (o := { dst := none, op := Go.Op.store 23 (Go.Operand.tmp 52) (Go.Operand.tmp 50), type := 0, pos := "disk.go:173", after := #[{ on := 18, ground := Go.Ground.data }, { on := 16, ground := Go.Ground.data }, { on := 16, ground := Go.Ground.chain }, { on := 0, ground := Go.Ground.phase }, { on := 1, ground := Go.Ground.phase }, { on := 2, ground := Go.Ground.phase }, { on := 3, ground := Go.Ground.phase }, { on := 4, ground := Go.Ground.phase }, { on := 5, ground := Go.Ground.phase }, { on := 6, ground := Go.Ground.phase }, { on := 7, ground := Go.Ground.phase }, { on := 8, ground := Go.Ground.phase }, { on := 9, ground := Go.Ground.phase }, { on := 10, ground := Go.Ground.phase }, { on := 11, ground := Go.Ground.phase }, { on := 12, ground := Go.Ground.phase }, { on := 13, ground := Go.Ground.phase }, { on := 14, ground := Go.Ground.phase }, { on := 15, ground := Go.Ground.phase }, { on := 16, ground := Go.Ground.phase }], guard := none }) rfl (fun K hK => ?_) AllReadyH.nil
        go_simp
        obtain ⟨w8, hw8⟩ : ∃ w8, w7.setCell ⟨g, i * 3 + 1, none⟩ (.slice A7 f.l c7) = w8 := ⟨_, rfl⟩
        rw [hw8]
        have k28 : w8.cell? ⟨g, i * 3 + 2, none⟩ = some (.int .i64 (f.l : Int)) := by rw [← hw8]; exact (World.cell?_setCell_other _ _ _ _ (by simp)).trans k27
        refine hK.out _ _ (k28) (fun hHeld => ?_)
        clear hK K
        try simp only [Act.put, List.setIfInBounds_toArray, List.set_cons_zero, List.set_cons_succ]
        refine wpAnyH_done (by kernel_rfl) ?_ _
        all_goals (
          clear hHeld
          have k18 : w8.cell? ⟨g, i * 3 + 1, none⟩ = some (.slice A7 f.l c7) := by
            rw [← hw8]; exact World.cell?_setCell_same _ _ _ k17
          have fz8 : w8.frozen? ⟨g, i * 3 + 2, none⟩ = false := by
            obtain ⟨cs, hb⟩ := (HD2.out.below b27).row_blk HG.out
            rw [← hw8]
            exact (hb.set _ _).free _
          have hlen7 : (f.b.take f.l).length = f.l := by rw [List.length_take, Nat.min_eq_left hql]
          have hrow8 : w8.ownsRow base 78 3 X1.v X1.L.length ((X1.L.set i ⟨f.s, A7, c7, f.b.take f.l, f.l⟩).flatMap rcells) := by
            rw [← hw8]
            exact row_store (HD2.out.below b27).row HG.out HF.out (j := 1) (by omega) (by simp only [rcells, RFE.v, hlen7]; rfl)
          have H8 := Lib.hid (And.intro hrow8 (And.intro (show Row w7 (.slice A7 f.l c7) (f.b.take f.l) from row_of_own o7) (And.intro (show ∀ p, (Value.slice A7 f.l c7).ownBlock = some p → w2.heap.size ≤ p ∧ p ≠ g from fun p hp => ⟨(o7.lt p hp).1, fun e => by have := (o7.lt p hp).1; omega⟩) (And.intro b27 (And.intro hw8 hlen7)))))
          clear hrow8 hlen7 o7 b27 b7 bA k27 k17 k2A k1A fz7 hwA hw8
          go_wp2_with fail
          have hW9 : ∃ W9, w8.setCell ⟨g, i * 3 + 2, none⟩ (.int .i64 (f.l : Int)) = W9 := ⟨_, rfl⟩
          obtain ⟨W9, hW9⟩ := hW9
          rw [hW9]
          have hlt9 : (X1.L.set i ⟨f.s, A7, c7, f.b.take f.l, f.l⟩)[i]? = some ⟨f.s, A7, c7, f.b.take f.l, f.l⟩ := by rw [List.getElem?_set_self (List.getElem?_eq_some_iff.1 HF.out).1]
          have hrow9 : W9.ownsRow base 78 3 X1.v X1.L.length ((X1.L.set i ⟨f.s, A7, c7, f.b.take f.l, f.l⟩).flatMap rcells) := by
            rw [← hW9]
            have := row_store (u := .int .i64 (f.l : Int)) (f' := ⟨f.s, A7, c7, f.b.take f.l, f.l⟩) H8.out.1 HG.out hlt9 (j := 2) (by omega) rfl
            rwa [List.set_set] at this
          have ht : Turn [g] w2 W9 := by
            rw [← hW9]
            have h1 : Turn [g] w2 w8 := by
              rw [← H8.out.2.2.2.2.1]
              exact (Turn.of_below H8.out.2.2.2.1).trans (Turn.set (B := [g]) (.inl (by simp))) (fun p hp => .inl hp)
            exact h1.trans (Turn.set (B := [g]) (.inl (by simp))) (fun p hp => .inl hp)
          have e9 : (⟨f.s, A7, c7, f.b.take f.l, f.l⟩ : RFE).v = .slice A7 f.l c7 := by unfold RFE.v; simp only [H8.out.2.2.2.2.2]
          have hrE : Row W9 (⟨f.s, A7, c7, f.b.take f.l, f.l⟩ : RFE).v (f.b.take f.l) := by
            rw [e9]
            refine H8.out.2.1.keep fun p hp => ?_
            have hpg := (H8.out.2.2.1 p hp).2
            rw [← hW9]
            refine (Below.heap_setCell _ _ _ _ hpg).trans ?_
            rw [← H8.out.2.2.2.2.1]
            exact Below.heap_setCell _ _ _ _ hpg
          have hbE : ∀ p, (⟨f.s, A7, c7, f.b.take f.l, f.l⟩ : RFE).v.ownBlock = some p → w2.heap.size ≤ p := fun p hp => by rw [e9] at hp; exact (H8.out.2.2.1 p hp).1
          have hX1 := HD2.out.set_row (f' := ⟨f.s, A7, c7, f.b.take f.l, f.l⟩) HG.out HF.out ht hrow9 ⟨hrE, by simp only [H8.out.2.2.2.2.2]; exact Nat.le_refl _, HFL.out.2.2⟩ (fun p hp => Nat.le_trans HD2.out.base_le (hbE p hp)) (by simp only [H8.out.2.2.2.2.2]; have := HD2.out.room; omega)
          have HX : Hid (RW W9 base r { X1 with L := X1.L.set i ⟨f.s, A7, c7, f.b.take f.l, f.l⟩ } ∧ Turn (X.bl r) w W9 ∧ ∀ p ∈ ({ X1 with L := X1.L.set i ⟨f.s, A7, c7, f.b.take f.l, f.l⟩ } : RDS).bl r, p ∈ X.bl r ∨ w.heap.size ≤ p) := by
            refine ⟨hX1, HT2.out.trans ht (fun p hp => HBL.out p (by simp at hp; subst hp; exact rbl_v HG.out)), fun p hp => ?_⟩
            rcases bl_set HF.out p hp with h1 | h1
            · exact HBL.out p h1
            · exact .inr (Nat.le_trans HT2.out.size (hbE p h1))
          clear hX1 hbE hrE e9 ht hrow9 hlt9 hW9 k18 fz8 k28
          go_roundw
          case rel =>
            refine ⟨i + 1, { X1 with L := X1.L.set i ⟨f.s, A7, c7, f.b.take f.l, f.l⟩ }, by omega, by go_num, HX.out.1, HX.out.2.1, HX.out.2.2, ?_⟩
            exact HREL.out A7 c7
          case measure => simp [intOf]; omega)
      · have hin : i = n := by omega
        have hcc := HD.out.cell
        have c1 : wr.cell? ⟨r, 1, none⟩ = some (.slice X1.A n X1.c) := by have h9 := HD.out.cell; unfold rdcells RDS.v at h9; have h8 := h9.cell 1; rw [hln1] at h8; exact h8
        have c2 : wr.cell? ⟨r, 2, none⟩ = some (.int .i64 X1.left) := hcc.cell 2
        have f2 := hcc.free 2
        have HS := Lib.hid (HD.out.set_left (-1) (by omega) (by omega))
        have q3 : decide ((i : Int) < (n : Int)) = false := decide_eq_false (by omega)
        clear hcc
        go_wp2_with fail
        go_end0
        refine ⟨rfl, { X1 with left := -1 }, HCT.out.1, rfl, ?_, HS.out.1, HT.out.trans HS.out.2 (fun p hp => HBL.out p hp), fun p hp => HBL.out p hp⟩
        have h1 := HCT.out.2.2.2
        rw [List.take_of_length_le (by rw [← HN.out]; omega), List.drop_of_length_le (by rw [← HN.out]; omega)] at h1
        simpa using h1
end Go.Proofs.Ytcoimlenejffpaa

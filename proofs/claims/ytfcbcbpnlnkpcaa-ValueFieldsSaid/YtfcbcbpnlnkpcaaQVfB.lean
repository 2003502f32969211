/- ValueFields: the walk. (Printed by gen/vfields.py.) -/
import Derived.Test.YtfcbcbpnlnkpcaaQWithAny
import Derived.Test.YtfcbcbpnlnkpcaaQVfA
import Derived.Test.YtfcbcbpnlnkpcaaQKnown5
import Derived.Test.YtfcbcbpnlnkpcaaQEqual
import Derived.Test.YtfcbcbpnlnkpcaaQLate
import Derived.Deep.RegionHeld3
import Derived.Outline
namespace Go.Proofs.Ytfcbcbpnlnkpcaa
set_option linter.all false
open Go.RowKit

set_option maxRecDepth 100000 in
set_option maxHeartbeats 12800000 in
theorem vf_err (n : Nd) (k : F) (m : Nd) (q : F) (v u : Value) (x : List UInt8) (w : World) (hv : Vo w (· < w.heap.size) n k v) (hu : Vo w (· < w.heap.size) m q u) (hhv : heavyF (.cons n k (.cons m q .nil)) = false) (hx : x.length ≤ 500) (h1 : chk n k 1 = 0) (hE : (withV n k x m q).1 ≠ 0) :
    Calls Try.prog 6 #[v, .string (str x), u] w (Ret (.bool true) w) := by
  obtain ⟨An, cn, Ak, ck, rfl, _, _, _, _, _⟩ := id hv
  obtain ⟨Bn, dn, Bk, dk, rfl, _, _, _, _, _⟩ := id hu
  have HV0 := Lib.hid hv
  have HV1 := Lib.hid hu
  have ST0 := St.box_new (St.box_new (St.nil w) hv) hu
  have hh : Hid (∀ (A : Option Addr) (w : World), Kids w (· < w.heap.size) A (.cons n k (.cons m q .nil)) → Calls Try.prog 7 #[.slice A 2 2] w (Ret (.bool false) w)) := fun A w h => by
    have := heavy_any A (.cons n k (.cons m q .nil)) 2 w ⟨by simp [F.len], by simp [F.len]⟩ h
    rw [hhv] at this
    exact this
  clear hv hu
  unfold ncells at *
  generalize hW1 : (w.alloc (.cells #[.int .i64 n.kind, .int .i64 n.int, .int .i64 n.scale, .string (str n.text), .slice An n.names.length cn, .slice Ak k.len ck] 25)).alloc (.cells #[.int .i64 m.kind, .int .i64 m.int, .int .i64 m.scale, .string (str m.text), .slice Bn m.names.length dn, .slice Bk q.len dk] 25) = W1
  have ST1 : Hid (St w [⟨w.heap.size, n, k, An, cn, Ak, ck⟩, ⟨(w.heap.size + 1), m, q, Bn, dn, Bk, dk⟩] W1) := by show St _ _ _; rw [← hW1]; have := ST0; simpa using this
  clear ST0
  have hwt := heavyF_wt hhv
  have hw0 : cost n + wtF k ≤ 2500 := by simp only [wtF] at hwt; omega
  have hw1 : cost m + wtF q ≤ 2500 := by simp only [wtF] at hwt; omega
  have HO1 : Hid (∀ W, Vo W (· < W.heap.size) n k (.agg #[.int .i64 n.kind, .int .i64 n.int, .int .i64 n.scale, .string (str n.text), .slice An n.names.length cn, .slice Ak k.len ck]) → Calls Try.prog 8 #[.agg #[.int .i64 n.kind, .int .i64 n.int, .int .i64 n.scale, .string (str n.text), .slice An n.names.length cn, .slice Ak k.len ck]] W (RetV n k W)) := fun W h => clone_any n k _ W hw0 h
  have HO2 : Hid (∀ W, Vo W (· < W.heap.size) m q (.agg #[.int .i64 m.kind, .int .i64 m.int, .int .i64 m.scale, .string (str m.text), .slice Bn m.names.length dn, .slice Bk q.len dk]) → Calls Try.prog 8 #[.agg #[.int .i64 m.kind, .int .i64 m.int, .int .i64 m.scale, .string (str m.text), .slice Bn m.names.length dn, .slice Bk q.len dk]] W (RetV m q W)) := fun W h => clone_any m q _ W hw1 h
  have HEQ : Hid (∀ (N : Nd) (K : F) (v u : Value) (W : World), Vo W (· < W.heap.size) N K v → Vo W (· < W.heap.size) N K u → Calls Try.prog 13 #[v, u] W (Ret (.bool true) W)) := fun N K v u W h h' => by
    have := eq_any N K N K v u W h h'
    rwa [eqV_iff.2 ⟨rfl, rfl⟩] at this
  have HWI : Hid (∀ (v u : Value) (W : World), Vo W (· < W.heap.size) n k v → Vo W (· < W.heap.size) m q u → Calls Try.prog 21 #[v, .string (str x), u] W (RetWW (withV n k x m q).1 (withV n k x m q).2.1 (withV n k x m q).2.2 W)) := fun v u W h h' => (With_any n k m q v u x W hw0 hw1 hx h h').mono (fun _ _ h => h.ww)
  have HRW : Hid (∀ (v u : Value) (W : World), Vo W (· < W.heap.size) n k v → Vo W (· < W.heap.size) m q u → Calls Try.prog 22 #[v, .string (str x), u] W (fun e w' => ∃ An cn Ak ck, e = .returned (.tuple #[.agg (ncells (withV n k x m q).2.1 An cn Ak (withV n k x m q).2.2.len ck).toArray, .int .i64 ((withV n k x m q).1 : Int)]) ∧ Vo w' (· < w'.heap.size) (withV n k x m q).2.1 (withV n k x m q).2.2 (.agg (ncells (withV n k x m q).2.1 An cn Ak (withV n k x m q).2.2.len ck).toArray) ∧ Below W.heap.size W w')) := fun v u W h h' => (RWith_any n k m q v u x W hw0 hw1 hx h h').mono (fun _ _ h => h.ff)
  have HF1 : Hid (∀ (v : Value) (W : World), Vo W (· < W.heap.size) n k v → Calls Try.prog 19 #[v, .string (str x)] W (RetFF (fieldV n k x).isSome ((fieldV n k x).getD (zNd, .nil)).1 ((fieldV n k x).getD (zNd, .nil)).2 W)) := fun v W h => (field_any n k v x W (by omega) h).mono (fun _ _ h => h.ff)
  have HF2 : Hid (∀ (v : Value) (W : World), Vo W (· < W.heap.size) n k v → Calls Try.prog 20 #[v, .string (str x)] W (RetFF (fieldV n k x).isSome ((fieldV n k x).getD (zNd, .nil)).1 ((fieldV n k x).getD (zNd, .nil)).2 W)) := fun v W h => (rfield_any n k v x W hw0 h).mono (fun _ _ h => h.ff)
  have HCK : Hid (∀ (v : Value) (W : World), Vo W (· < W.heap.size) n k v → Calls Try.prog 12 #[v] W (Ret (.int .i64 (chk n k 1 : Int)) W)) := fun v W h => RCheck_any n k v W h
  generalize hE0 : (withV n k x m q).1 = E at *
  generalize (withV n k x m q).2.1 = N at *
  generalize (withV n k x m q).2.2 = KK at *
  generalize (fieldV n k x).isSome = FB at *
  generalize ((fieldV n k x).getD (zNd, .nil)).1 = FNd at *
  generalize ((fieldV n k x).getD (zNd, .nil)).2 = FF at *
  generalize hC0 : chk n k 1 = C at *
  clear hE0 hC0 hw0 hw1 hwt
  subst h1
  have q2 : ((E : Int) == 0) = false := by rw [beq_eq_false_iff_ne]; omega
  clear hE
  clear hhv
  have HX := Lib.hid hx
  clear hx
  go_enter Try.func6, Try.ntmps6
  have st1 := ST1.out
  obtain ⟨x00, x01, x02, x03, x04, x05⟩ : Six0 W1 w.heap.size n An cn Ak k.len ck := st1.six 0 rfl
  have xlt0 : w.heap.size < W1.heap.size := st1.lt 0 rfl
  obtain ⟨x10, x11, x12, x13, x14, x15⟩ : Six0 W1 (w.heap.size + 1) m Bn dn Bk q.len dk := st1.six 1 rfl
  have xlt1 : (w.heap.size + 1) < W1.heap.size := st1.lt 1 rfl
  clear st1
  have hsz := str_sz x
  have hx5 : ¬ ((500 : Int) < (x.length : Int)) := by have := HX.out; omega
  go_wp2_with fail
  have hkd := kids_new (Vo.kc (ST1.out.v 0 rfl) (Vo.kc (ST1.out.v 1 rfl) (show Kc W1 (· < W1.heap.size) F.nil [] from rfl))) (fun b hb => hb) 25
  generalize hA : W1.alloc (.cells #[.int .i64 n.kind, .int .i64 n.int, .int .i64 n.scale, .string (str n.text), .slice An n.names.length cn, .slice Ak k.len ck, .int .i64 m.kind, .int .i64 m.int, .int .i64 m.scale, .string (str m.text), .slice Bn m.names.length dn, .slice Bk q.len dk] 25) = Wa
  have ba : Below W1.heap.size W1 Wa := by rw [← hA]; exact (Below.refl _ _).alloc (Nat.le_refl _) _
  have HK : Hid (Kids Wa (· < Wa.heap.size) (some ⟨W1.heap.size, 0, none⟩) (.cons n k (.cons m q .nil))) := by show Kids _ _ _ _; rw [← hA]; simpa [ncells] using hkd
  clear hkd hA x00 x01 x02 x03 x04 x05 x10 x11 x12 x13 x14 x15 xlt0 xlt1
  refine ((unhide hh) _ _ HK.out).mono ?_
  rintro e w2 ⟨rfl, b2⟩
  have ST2 := Lib.hid (ST1.out.step (bseq ba b2))
  clear ST1 HK ba b2 hW1 hh
  go_upto_region 3 with fail
  have B_w2 : Hid (Below w.heap.size w w2) := ST2.out.1
  have V_w2 : Hid (Blk w2 w.heap.size #[.int .i64 n.kind, .int .i64 n.int, .int .i64 n.scale, .string (str n.text), .slice An n.names.length cn, .slice Ak k.len ck] 25) := (ST2.out.box 0 rfl).1
  have X_w2 : Hid (Blk w2 (w.heap.size + 1) #[.int .i64 m.kind, .int .i64 m.int, .int .i64 m.scale, .string (str m.text), .slice Bn m.names.length dn, .slice Bk q.len dk] 25) := (ST2.out.box 1 rfl).1
  clear ST2
  go_cut [7, 8] (fun s7 s8 wx => VF3 w n k An cn Ak ck m q Bn dn Bk dk s7 s8 wx)
  case first =>
    have B_v0 : Hid (Below w.heap.size w w2.drew) := below_drewN B_w2.out 1
    have V_v0 : Hid (Blk w2.drew w.heap.size #[.int .i64 n.kind, .int .i64 n.int, .int .i64 n.scale, .string (str n.text), .slice An n.names.length cn, .slice Ak k.len ck] 25) := V_w2.out
    have X_v0 : Hid (Blk w2.drew (w.heap.size + 1) #[.int .i64 m.kind, .int .i64 m.int, .int .i64 m.scale, .string (str m.text), .slice Bn m.names.length dn, .slice Bk q.len dk] 25) := X_w2.out
    refine wp_region_late 7 (fun _ => True) (fun w' => (w'.cell? ⟨w.heap.size, 0, none⟩ = some (.int .i64 n.kind) ∧ w'.cell? ⟨w.heap.size, 1, none⟩ = some (.int .i64 n.int) ∧ w'.cell? ⟨w.heap.size, 2, none⟩ = some (.int .i64 n.scale) ∧ w'.cell? ⟨w.heap.size, 3, none⟩ = some (.string (str n.text)) ∧ w'.cell? ⟨w.heap.size, 4, none⟩ = some (.slice An n.names.length cn) ∧ w'.cell? ⟨w.heap.size, 5, none⟩ = some (.slice Ak k.len ck)) ∧ (w'.cell? ⟨(w.heap.size + 1), 0, none⟩ = some (.int .i64 m.kind) ∧ w'.cell? ⟨(w.heap.size + 1), 1, none⟩ = some (.int .i64 m.int) ∧ w'.cell? ⟨(w.heap.size + 1), 2, none⟩ = some (.int .i64 m.scale) ∧ w'.cell? ⟨(w.heap.size + 1), 3, none⟩ = some (.string (str m.text)) ∧ w'.cell? ⟨(w.heap.size + 1), 4, none⟩ = some (.slice Bn m.names.length dn) ∧ w'.cell? ⟨(w.heap.size + 1), 5, none⟩ = some (.slice Bk q.len dk))) (by kernel_rfl) (⟨trivial, six_ V_v0.out, six_ X_v0.out⟩) (fun hHeld => ?_)
    generalize w2.drew = v0 at *
    have z_v0 := X_v0.out.lt
    clear B_w2 V_w2 X_w2
    refine wpAnyL_takeT (i := 0) (oi := { dst := some 28, op := .load 25 (.tmp 3), type := 25, pos := "law.go:88", after := #[], guard := none }) (v := ?_) rfl (by kernel_rfl) (by kernel_rfl) (by kernel_rfl) (by kernel_rfl) (fun _ _ _ h => h) (Or.inl ⟨by rfl, ?_⟩) (⟨.inr hHeld.1, hHeld.2⟩) ?_
    rotate_left
    · (intro w hSw; (try dsimp only at hSw); go_simp; try with_reducible rfl)
    try simp only [Act.put, List.setIfInBounds_toArray, List.set_cons_zero, List.set_cons_succ]
    refine wpAnyL_takeT (i := 2) (oi := { dst := some 30, op := .load 25 (.tmp 5), type := 25, pos := "law.go:88", after := #[], guard := none }) (v := ?_) rfl (by kernel_rfl) (by kernel_rfl) (by kernel_rfl) (by kernel_rfl) (fun _ _ _ h => h) (Or.inl ⟨by rfl, ?_⟩) (⟨.inr hHeld.1, hHeld.2⟩) ?_
    rotate_left
    · (intro w hSw; (try dsimp only at hSw); go_simp; try with_reducible rfl)
    try simp only [Act.put, List.setIfInBounds_toArray, List.set_cons_zero, List.set_cons_succ]
    refine wpAnyL_ready (rs := [1, 4, 5]) (by kernel_rfl) (by simp) ?_
    refine AllReadyL.cons (o := { dst := some 29, op := .call { callee := .value (.func 8), args := #[.tmp 28], argTypes := #[25] }, type := 25, pos := "law.go:88", after := #[{ on := 0, ground := .data }], guard := none }) rfl (fun K hK => ?_) ?_
    go_simp
    refine ((unhide HO1) v0 (HV0.out.upto B_v0.out)).mono ?_
    rintro e v1 ⟨vv, rfl, vo_v1, b_v1⟩
    have vo2 := vo_v1.keep (w' := v1) (S' := fun i => i < v1.heap.size) (fun _ _ => rfl) (fun i hi => hi.2)
    clear vo_v1
    obtain ⟨Cn, en, Ck, ek, rfl, _, _, _, _, _⟩ := id vo2
    unfold ncells at vo2
    unfold ncells
    have B_v1 : Hid (Below w.heap.size w v1) := B_v0.out.trans (b_v1.mono B_v0.out.size)
    have z_v1 : v0.heap.size ≤ v1.heap.size := b_v1.size
    have V_v1 := Lib.hid (V_v0.out.below b_v1 V_v0.out.lt)
    have X_v1 := Lib.hid (X_v0.out.below b_v1 X_v0.out.lt)
    have C_v1 := Lib.hid vo2
    clear vo2
    go_wp2_with fail
    refine hK.out _ _ (⟨trivial, six_ V_v1.out, six_ X_v1.out⟩) (fun hHeld => ?_)
    clear hK K
    try simp only [Act.put, List.setIfInBounds_toArray, List.set_cons_zero, List.set_cons_succ]
    refine wpAnyL_ready (rs := [3, 4, 5]) (by kernel_rfl) (by simp) ?_
    refine AllReadyL.cons (o := { dst := some 31, op := .call { callee := .value (.func 8), args := #[.tmp 30], argTypes := #[25] }, type := 25, pos := "law.go:88", after := #[{ on := 2, ground := .data }, { on := 1, ground := .chain }], guard := none }) rfl (fun K hK => ?_) ?_
    go_simp
    refine ((unhide HO2) v1 (HV1.out.upto B_v1.out)).mono ?_
    rintro e v2 ⟨vv, rfl, vo_v2, b_v2⟩
    have vo2 := vo_v2.keep (w' := v2) (S' := fun i => i < v2.heap.size) (fun _ _ => rfl) (fun i hi => hi.2)
    clear vo_v2
    obtain ⟨Dn, fn, Dk, fk, rfl, _, _, _, _, _⟩ := id vo2
    unfold ncells at vo2
    unfold ncells
    have B_v2 : Hid (Below w.heap.size w v2) := B_v1.out.trans (b_v2.mono B_v1.out.size)
    have z_v2 : v1.heap.size ≤ v2.heap.size := b_v2.size
    have V_v2 := Lib.hid (V_v1.out.below b_v2 V_v1.out.lt)
    have X_v2 := Lib.hid (X_v1.out.below b_v2 X_v1.out.lt)
    have C_v2 := Lib.hid (Vo.keep (w' := v2) (S' := fun i => i < v2.heap.size) C_v1.out (fun i hi => b_v2.block i hi) (fun i hi => Nat.lt_of_lt_of_le hi b_v2.size))
    have D_v2 := Lib.hid vo2
    clear vo2
    go_wp2_with fail
    refine hK.out _ _ (⟨trivial, six_ V_v2.out, six_ X_v2.out⟩) (fun hHeld => ?_)
    clear hK K
    try simp only [Act.put, List.setIfInBounds_toArray, List.set_cons_zero, List.set_cons_succ]
    refine wpAnyL_ready (rs := [4, 5]) (by kernel_rfl) (by simp) ?_
    refine AllReadyL.cons (o := { dst := some 7, op := .alloc 25, type := 0, pos := "law.go:88", after := #[], guard := none }) rfl (fun K hK => ?_) ?_
    go_simp
    obtain ⟨v3, h_v3⟩ : ∃ v, v2.alloc (.cells #[.int .i64 0, .int .i64 0, .int .i64 0, .string ⟨#[]⟩, .slice none 0 0, .slice none 0 0] 25) = v := ⟨_, rfl⟩
    rw [h_v3]
    have b_v3 : Below v2.heap.size v2 v3 := by rw [← h_v3]; exact (Below.refl _ _).alloc (Nat.le_refl _) _
    have B_v3 : Hid (Below w.heap.size w v3) := B_v2.out.trans (b_v3.mono B_v2.out.size)
    have z_v3 : v2.heap.size ≤ v3.heap.size := b_v3.size
    have V_v3 := Lib.hid (V_v2.out.below b_v3 V_v2.out.lt)
    have X_v3 := Lib.hid (X_v2.out.below b_v3 X_v2.out.lt)
    have C_v3 := Lib.hid (Vo.keep (w' := v3) (S' := fun i => i < v3.heap.size ∧ i ≠ v2.heap.size) C_v2.out (fun i hi => b_v3.block i hi) (fun i hi => ⟨Nat.lt_of_lt_of_le hi b_v3.size, by have := hi; omega⟩))
    have D_v3 := Lib.hid (Vo.keep (w' := v3) (S' := fun i => i < v3.heap.size ∧ i ≠ v2.heap.size) D_v2.out (fun i hi => b_v3.block i hi) (fun i hi => ⟨Nat.lt_of_lt_of_le hi b_v3.size, by have := hi; omega⟩))
    have G7_v3 : Hid (Blk v3 v2.heap.size #[.int .i64 0, .int .i64 0, .int .i64 0, .string ⟨#[]⟩, .slice none 0 0, .slice none 0 0] 25) := by show Blk _ _ _ _; rw [← h_v3]; exact Blk.new _ _ _
    have hg7 : w.heap.size + 1 < v2.heap.size := X_v2.out.lt
    clear h_v3
    refine hK.out _ _ (⟨trivial, six_ V_v3.out, six_ X_v3.out⟩) (fun hHeld => ?_)
    clear hK K
    try simp only [Act.put, List.setIfInBounds_toArray, List.set_cons_zero, List.set_cons_succ]
    refine wpAnyL_ready (rs := [5]) (by kernel_rfl) (by simp) ?_
    refine AllReadyL.cons (o := { dst := some 8, op := .alloc 25, type := 0, pos := "law.go:88", after := #[], guard := none }) rfl (fun K hK => ?_) AllReadyL.nil
    go_simp
    obtain ⟨v4, h_v4⟩ : ∃ v, v3.alloc (.cells #[.int .i64 0, .int .i64 0, .int .i64 0, .string ⟨#[]⟩, .slice none 0 0, .slice none 0 0] 25) = v := ⟨_, rfl⟩
    rw [h_v4]
    have b_v4 : Below v3.heap.size v3 v4 := by rw [← h_v4]; exact (Below.refl _ _).alloc (Nat.le_refl _) _
    have B_v4 : Hid (Below w.heap.size w v4) := B_v3.out.trans (b_v4.mono B_v3.out.size)
    have z_v4 : v3.heap.size ≤ v4.heap.size := b_v4.size
    have V_v4 := Lib.hid (V_v3.out.below b_v4 V_v3.out.lt)
    have X_v4 := Lib.hid (X_v3.out.below b_v4 X_v3.out.lt)
    have G7_v4 := Lib.hid (G7_v3.out.below b_v4 G7_v3.out.lt)
    have C_v4 := Lib.hid (Vo.keep (w' := v4) (S' := fun i => i < v4.heap.size ∧ i ≠ v2.heap.size ∧ i ≠ v3.heap.size) C_v3.out (fun i hi => b_v4.block i hi.1) (fun i hi => ⟨Nat.lt_of_lt_of_le hi.1 b_v4.size, hi.2, by have := hi.1; omega⟩))
    have D_v4 := Lib.hid (Vo.keep (w' := v4) (S' := fun i => i < v4.heap.size ∧ i ≠ v2.heap.size ∧ i ≠ v3.heap.size) D_v3.out (fun i hi => b_v4.block i hi.1) (fun i hi => ⟨Nat.lt_of_lt_of_le hi.1 b_v4.size, hi.2, by have := hi.1; omega⟩))
    have G8_v4 : Hid (Blk v4 v3.heap.size #[.int .i64 0, .int .i64 0, .int .i64 0, .string ⟨#[]⟩, .slice none 0 0, .slice none 0 0] 25) := by show Blk _ _ _ _; rw [← h_v4]; exact Blk.new _ _ _
    have hg8 : w.heap.size + 1 < v3.heap.size := X_v3.out.lt
    have hgg : v2.heap.size < v3.heap.size := G7_v3.out.lt
    clear h_v4
    refine hK.out _ _ (⟨trivial, six_ V_v4.out, six_ X_v4.out⟩) (fun hHeld => ?_)
    clear hK K
    try simp only [Act.put, List.setIfInBounds_toArray, List.set_cons_zero, List.set_cons_succ]
    refine wpAnyL_ready (rs := [6]) (by kernel_rfl) (by simp) ?_
    refine AllReadyL.cons (o := { dst := none, op := .store 25 (.tmp 7) (.tmp 29), type := 0, pos := "law.go:88", after := #[{ on := 4, ground := .data }, { on := 1, ground := .data }, { on := 3, ground := .chain }, { on := 0, ground := .phase }, { on := 1, ground := .phase }, { on := 2, ground := .textOnly Go.Departure.lateStores }, { on := 3, ground := .textOnly Go.Departure.lateStoresUnsure }, { on := 4, ground := .phase }, { on := 5, ground := .phase }], guard := none }) rfl (fun K hK => ?_) AllReadyL.nil
    have s0 : v4.cell? ⟨v2.heap.size, 0, none⟩ = some (.int .i64 0) := G7_v4.out.cell 0
    have s_0 := G7_v4.out.free 0
    have s1 : v4.cell? ⟨v2.heap.size, 1, none⟩ = some (.int .i64 0) := G7_v4.out.cell 1
    have s_1 := G7_v4.out.free 1
    have s2 : v4.cell? ⟨v2.heap.size, 2, none⟩ = some (.int .i64 0) := G7_v4.out.cell 2
    have s_2 := G7_v4.out.free 2
    have s3 : v4.cell? ⟨v2.heap.size, 3, none⟩ = some (.string ⟨#[]⟩) := G7_v4.out.cell 3
    have s_3 := G7_v4.out.free 3
    have s4 : v4.cell? ⟨v2.heap.size, 4, none⟩ = some (.slice none 0 0) := G7_v4.out.cell 4
    have s_4 := G7_v4.out.free 4
    have s5 : v4.cell? ⟨v2.heap.size, 5, none⟩ = some (.slice none 0 0) := G7_v4.out.cell 5
    have s_5 := G7_v4.out.free 5
    go_simp
    obtain ⟨v5, h_v5⟩ : ∃ v, ((((((v4.setCell ⟨v2.heap.size, 0, none⟩ (.int .i64 n.kind)).setCell ⟨v2.heap.size, 1, none⟩ (.int .i64 n.int)).setCell ⟨v2.heap.size, 2, none⟩ (.int .i64 n.scale)).setCell ⟨v2.heap.size, 3, none⟩ (.string (str n.text))).setCell ⟨v2.heap.size, 4, none⟩ (.slice Cn n.names.length en)).setCell ⟨v2.heap.size, 5, none⟩ (.slice Ck k.len ek)) = v := ⟨_, rfl⟩
    rw [h_v5]
    clear s0 s_0 s1 s_1 s2 s_2 s3 s_3 s4 s_4 s5 s_5
    have B_v5 : Hid (Below w.heap.size w v5) := by show Below _ _ _; rw [← h_v5]; exact below_six B_v4.out (by omega)
    have G7_v5 : Hid (Blk v5 v2.heap.size #[.int .i64 n.kind, .int .i64 n.int, .int .i64 n.scale, .string (str n.text), .slice Cn n.names.length en, .slice Ck k.len ek] 25) := by show Blk _ _ _ _; rw [← h_v5]; exact Blk.put6 G7_v4.out
    have V_v5 := Lib.hid (show Blk v5 _ _ _ from by rw [← h_v5]; exact Blk.six_other V_v4.out (by omega))
    have X_v5 := Lib.hid (show Blk v5 _ _ _ from by rw [← h_v5]; exact Blk.six_other X_v4.out (by omega))
    have G8_v5 := Lib.hid (show Blk v5 _ _ _ from by rw [← h_v5]; exact Blk.six_other G8_v4.out (by omega))
    have C_v5 : Hid (Vo v5 (fun i => i < v5.heap.size ∧ i ≠ v2.heap.size ∧ i ≠ v3.heap.size) n k (agN n Cn en Ck k.len ek)) := by show Vo _ _ _ _ _; rw [← h_v5]; exact vo_six C_v4.out (fun i hi => hi.2.1) (fun i hi => ⟨by simpa using hi.1, hi.2⟩)
    have D_v5 : Hid (Vo v5 (fun i => i < v5.heap.size ∧ i ≠ v2.heap.size ∧ i ≠ v3.heap.size) m q (agN m Dn fn Dk q.len fk)) := by show Vo _ _ _ _ _; rw [← h_v5]; exact vo_six D_v4.out (fun i hi => hi.2.1) (fun i hi => ⟨by simpa using hi.1, hi.2⟩)
    clear h_v5
    refine hK.out _ _ (⟨trivial, six_ V_v5.out, six_ X_v5.out⟩) (fun hHeld => ?_)
    clear hK K
    try simp only [Act.put, List.setIfInBounds_toArray, List.set_cons_zero, List.set_cons_succ]
    refine wpAnyL_ready (rs := [7]) (by kernel_rfl) (by simp) ?_
    refine AllReadyL.late (o := { dst := none, op := .store 25 (.tmp 8) (.tmp 31), type := 0, pos := "law.go:88", after := #[{ on := 5, ground := .data }, { on := 3, ground := .data }, { on := 6, ground := .chain }, { on := 0, ground := .phase }, { on := 1, ground := .phase }, { on := 2, ground := .phase }, { on := 3, ground := .phase }, { on := 4, ground := .phase }, { on := 5, ground := .phase }, { on := 6, ground := .phase }], guard := none }) rfl (by kernel_rfl) (fun K hK => ?_) AllReadyL.nil
    have s0 : v5.cell? ⟨v3.heap.size, 0, none⟩ = some (.int .i64 0) := G8_v5.out.cell 0
    have s_0 := G8_v5.out.free 0
    have s1 : v5.cell? ⟨v3.heap.size, 1, none⟩ = some (.int .i64 0) := G8_v5.out.cell 1
    have s_1 := G8_v5.out.free 1
    have s2 : v5.cell? ⟨v3.heap.size, 2, none⟩ = some (.int .i64 0) := G8_v5.out.cell 2
    have s_2 := G8_v5.out.free 2
    have s3 : v5.cell? ⟨v3.heap.size, 3, none⟩ = some (.string ⟨#[]⟩) := G8_v5.out.cell 3
    have s_3 := G8_v5.out.free 3
    have s4 : v5.cell? ⟨v3.heap.size, 4, none⟩ = some (.slice none 0 0) := G8_v5.out.cell 4
    have s_4 := G8_v5.out.free 4
    have s5 : v5.cell? ⟨v3.heap.size, 5, none⟩ = some (.slice none 0 0) := G8_v5.out.cell 5
    have s_5 := G8_v5.out.free 5
    go_simp
    obtain ⟨v6, h_v6⟩ : ∃ v, ((((((v5.setCell ⟨v3.heap.size, 0, none⟩ (.int .i64 m.kind)).setCell ⟨v3.heap.size, 1, none⟩ (.int .i64 m.int)).setCell ⟨v3.heap.size, 2, none⟩ (.int .i64 m.scale)).setCell ⟨v3.heap.size, 3, none⟩ (.string (str m.text))).setCell ⟨v3.heap.size, 4, none⟩ (.slice Dn m.names.length fn)).setCell ⟨v3.heap.size, 5, none⟩ (.slice Dk q.len fk)) = v := ⟨_, rfl⟩
    rw [h_v6]
    clear s0 s_0 s1 s_1 s2 s_2 s3 s_3 s4 s_4 s5 s_5
    have B_v6 : Hid (Below w.heap.size w v6) := by show Below _ _ _; rw [← h_v6]; exact below_six B_v5.out (by omega)
    have G8_v6 : Hid (Blk v6 v3.heap.size #[.int .i64 m.kind, .int .i64 m.int, .int .i64 m.scale, .string (str m.text), .slice Dn m.names.length fn, .slice Dk q.len fk] 25) := by show Blk _ _ _ _; rw [← h_v6]; exact Blk.put6 G8_v5.out
    have V_v6 := Lib.hid (show Blk v6 _ _ _ from by rw [← h_v6]; exact Blk.six_other V_v5.out (by omega))
    have X_v6 := Lib.hid (show Blk v6 _ _ _ from by rw [← h_v6]; exact Blk.six_other X_v5.out (by omega))
    have G7_v6 := Lib.hid (show Blk v6 _ _ _ from by rw [← h_v6]; exact Blk.six_other G7_v5.out (by omega))
    have C_v6 : Hid (Vo v6 (fun i => i < v6.heap.size ∧ i ≠ v2.heap.size ∧ i ≠ v3.heap.size) n k (agN n Cn en Ck k.len ek)) := by show Vo _ _ _ _ _; rw [← h_v6]; exact vo_six C_v5.out (fun i hi => hi.2.2) (fun i hi => ⟨by simpa using hi.1, hi.2⟩)
    have D_v6 : Hid (Vo v6 (fun i => i < v6.heap.size ∧ i ≠ v2.heap.size ∧ i ≠ v3.heap.size) m q (agN m Dn fn Dk q.len fk)) := by show Vo _ _ _ _ _; rw [← h_v6]; exact vo_six D_v5.out (fun i hi => hi.2.2) (fun i hi => ⟨by simpa using hi.1, hi.2⟩)
    clear h_v6
    have FIN : VF3 w n k An cn Ak ck m q Bn dn Bk dk (.pointer (some ⟨v2.heap.size, 0, none⟩)) (.pointer (some ⟨v3.heap.size, 0, none⟩)) v6 := ⟨v2.heap.size, v3.heap.size, Cn, en, Ck, ek, Dn, fn, Dk, fk, rfl, rfl, st_four B_v6.out ⟨V_v6.out, HV0.out.upto B_v6.out⟩ ⟨X_v6.out, HV1.out.upto B_v6.out⟩ ⟨G7_v6.out, C_v6.out.keep (fun _ _ => rfl) (fun i hi => hi.1)⟩ ⟨G8_v6.out, D_v6.out.keep (fun _ _ => rfl) (fun i hi => hi.1)⟩⟩
    refine hK.out _ _ (⟨six_ V_v6.out, six_ X_v6.out⟩) (fun hHeld => ?_)
    clear hK K
    try simp only [Act.put, List.setIfInBounds_toArray, List.set_cons_zero, List.set_cons_succ]
    refine wpAnyL_done (by kernel_rfl) ?_ _
    rotate_left 1
    refine AllReadyL.cons (o := { dst := some 8, op := .alloc 25, type := 0, pos := "law.go:88", after := #[], guard := none }) rfl (fun K hK => ?_) AllReadyL.nil
    go_simp
    obtain ⟨v7, h_v7⟩ : ∃ v, v2.alloc (.cells #[.int .i64 0, .int .i64 0, .int .i64 0, .string ⟨#[]⟩, .slice none 0 0, .slice none 0 0] 25) = v := ⟨_, rfl⟩
    rw [h_v7]
    have b_v7 : Below v2.heap.size v2 v7 := by rw [← h_v7]; exact (Below.refl _ _).alloc (Nat.le_refl _) _
    have B_v7 : Hid (Below w.heap.size w v7) := B_v2.out.trans (b_v7.mono B_v2.out.size)
    have z_v7 : v2.heap.size ≤ v7.heap.size := b_v7.size
    have V_v7 := Lib.hid (V_v2.out.below b_v7 V_v2.out.lt)
    have X_v7 := Lib.hid (X_v2.out.below b_v7 X_v2.out.lt)
    have C_v7 := Lib.hid (Vo.keep (w' := v7) (S' := fun i => i < v7.heap.size ∧ i ≠ v2.heap.size) C_v2.out (fun i hi => b_v7.block i hi) (fun i hi => ⟨Nat.lt_of_lt_of_le hi b_v7.size, by have := hi; omega⟩))
    have D_v7 := Lib.hid (Vo.keep (w' := v7) (S' := fun i => i < v7.heap.size ∧ i ≠ v2.heap.size) D_v2.out (fun i hi => b_v7.block i hi) (fun i hi => ⟨Nat.lt_of_lt_of_le hi b_v7.size, by have := hi; omega⟩))
    have G8_v7 : Hid (Blk v7 v2.heap.size #[.int .i64 0, .int .i64 0, .int .i64 0, .string ⟨#[]⟩, .slice none 0 0, .slice none 0 0] 25) := by show Blk _ _ _ _; rw [← h_v7]; exact Blk.new _ _ _
    have hg8 : w.heap.size + 1 < v2.heap.size := X_v2.out.lt
    clear h_v7
    refine hK.out _ _ (⟨trivial, six_ V_v7.out, six_ X_v7.out⟩) (fun hHeld => ?_)
    clear hK K
    try simp only [Act.put, List.setIfInBounds_toArray, List.set_cons_zero, List.set_cons_succ]
    refine wpAnyL_ready (rs := [4]) (by kernel_rfl) (by simp) ?_
    refine AllReadyL.cons (o := { dst := some 7, op := .alloc 25, type := 0, pos := "law.go:88", after := #[], guard := none }) rfl (fun K hK => ?_) AllReadyL.nil
    go_simp
    obtain ⟨v8, h_v8⟩ : ∃ v, v7.alloc (.cells #[.int .i64 0, .int .i64 0, .int .i64 0, .string ⟨#[]⟩, .slice none 0 0, .slice none 0 0] 25) = v := ⟨_, rfl⟩
    rw [h_v8]
    have b_v8 : Below v7.heap.size v7 v8 := by rw [← h_v8]; exact (Below.refl _ _).alloc (Nat.le_refl _) _
    have B_v8 : Hid (Below w.heap.size w v8) := B_v7.out.trans (b_v8.mono B_v7.out.size)
    have z_v8 : v7.heap.size ≤ v8.heap.size := b_v8.size
    have V_v8 := Lib.hid (V_v7.out.below b_v8 V_v7.out.lt)
    have X_v8 := Lib.hid (X_v7.out.below b_v8 X_v7.out.lt)
    have G8_v8 := Lib.hid (G8_v7.out.below b_v8 G8_v7.out.lt)
    have C_v8 := Lib.hid (Vo.keep (w' := v8) (S' := fun i => i < v8.heap.size ∧ i ≠ v2.heap.size ∧ i ≠ v7.heap.size) C_v7.out (fun i hi => b_v8.block i hi.1) (fun i hi => ⟨Nat.lt_of_lt_of_le hi.1 b_v8.size, hi.2, by have := hi.1; omega⟩))
    have D_v8 := Lib.hid (Vo.keep (w' := v8) (S' := fun i => i < v8.heap.size ∧ i ≠ v2.heap.size ∧ i ≠ v7.heap.size) D_v7.out (fun i hi => b_v8.block i hi.1) (fun i hi => ⟨Nat.lt_of_lt_of_le hi.1 b_v8.size, hi.2, by have := hi.1; omega⟩))
    have G7_v8 : Hid (Blk v8 v7.heap.size #[.int .i64 0, .int .i64 0, .int .i64 0, .string ⟨#[]⟩, .slice none 0 0, .slice none 0 0] 25) := by show Blk _ _ _ _; rw [← h_v8]; exact Blk.new _ _ _
    have hg7 : w.heap.size + 1 < v7.heap.size := X_v7.out.lt
    have hgg : v2.heap.size < v7.heap.size := G8_v7.out.lt
    clear h_v8
    refine hK.out _ _ (⟨trivial, six_ V_v8.out, six_ X_v8.out⟩) (fun hHeld => ?_)
    clear hK K
    try simp only [Act.put, List.setIfInBounds_toArray, List.set_cons_zero, List.set_cons_succ]
    refine wpAnyL_ready (rs := [6]) (by kernel_rfl) (by simp) ?_
    refine AllReadyL.cons (o := { dst := none, op := .store 25 (.tmp 7) (.tmp 29), type := 0, pos := "law.go:88", after := #[{ on := 4, ground := .data }, { on := 1, ground := .data }, { on := 3, ground := .chain }, { on := 0, ground := .phase }, { on := 1, ground := .phase }, { on := 2, ground := .textOnly Go.Departure.lateStores }, { on := 3, ground := .textOnly Go.Departure.lateStoresUnsure }, { on := 4, ground := .phase }, { on := 5, ground := .phase }], guard := none }) rfl (fun K hK => ?_) AllReadyL.nil
    have s0 : v8.cell? ⟨v7.heap.size, 0, none⟩ = some (.int .i64 0) := G7_v8.out.cell 0
    have s_0 := G7_v8.out.free 0
    have s1 : v8.cell? ⟨v7.heap.size, 1, none⟩ = some (.int .i64 0) := G7_v8.out.cell 1
    have s_1 := G7_v8.out.free 1
    have s2 : v8.cell? ⟨v7.heap.size, 2, none⟩ = some (.int .i64 0) := G7_v8.out.cell 2
    have s_2 := G7_v8.out.free 2
    have s3 : v8.cell? ⟨v7.heap.size, 3, none⟩ = some (.string ⟨#[]⟩) := G7_v8.out.cell 3
    have s_3 := G7_v8.out.free 3
    have s4 : v8.cell? ⟨v7.heap.size, 4, none⟩ = some (.slice none 0 0) := G7_v8.out.cell 4
    have s_4 := G7_v8.out.free 4
    have s5 : v8.cell? ⟨v7.heap.size, 5, none⟩ = some (.slice none 0 0) := G7_v8.out.cell 5
    have s_5 := G7_v8.out.free 5
    go_simp
    obtain ⟨v9, h_v9⟩ : ∃ v, ((((((v8.setCell ⟨v7.heap.size, 0, none⟩ (.int .i64 n.kind)).setCell ⟨v7.heap.size, 1, none⟩ (.int .i64 n.int)).setCell ⟨v7.heap.size, 2, none⟩ (.int .i64 n.scale)).setCell ⟨v7.heap.size, 3, none⟩ (.string (str n.text))).setCell ⟨v7.heap.size, 4, none⟩ (.slice Cn n.names.length en)).setCell ⟨v7.heap.size, 5, none⟩ (.slice Ck k.len ek)) = v := ⟨_, rfl⟩
    rw [h_v9]
    clear s0 s_0 s1 s_1 s2 s_2 s3 s_3 s4 s_4 s5 s_5
    have B_v9 : Hid (Below w.heap.size w v9) := by show Below _ _ _; rw [← h_v9]; exact below_six B_v8.out (by omega)
    have G7_v9 : Hid (Blk v9 v7.heap.size #[.int .i64 n.kind, .int .i64 n.int, .int .i64 n.scale, .string (str n.text), .slice Cn n.names.length en, .slice Ck k.len ek] 25) := by show Blk _ _ _ _; rw [← h_v9]; exact Blk.put6 G7_v8.out
    have V_v9 := Lib.hid (show Blk v9 _ _ _ from by rw [← h_v9]; exact Blk.six_other V_v8.out (by omega))
    have X_v9 := Lib.hid (show Blk v9 _ _ _ from by rw [← h_v9]; exact Blk.six_other X_v8.out (by omega))
    have G8_v9 := Lib.hid (show Blk v9 _ _ _ from by rw [← h_v9]; exact Blk.six_other G8_v8.out (by omega))
    have C_v9 : Hid (Vo v9 (fun i => i < v9.heap.size ∧ i ≠ v2.heap.size ∧ i ≠ v7.heap.size) n k (agN n Cn en Ck k.len ek)) := by show Vo _ _ _ _ _; rw [← h_v9]; exact vo_six C_v8.out (fun i hi => hi.2.2) (fun i hi => ⟨by simpa using hi.1, hi.2⟩)
    have D_v9 : Hid (Vo v9 (fun i => i < v9.heap.size ∧ i ≠ v2.heap.size ∧ i ≠ v7.heap.size) m q (agN m Dn fn Dk q.len fk)) := by show Vo _ _ _ _ _; rw [← h_v9]; exact vo_six D_v8.out (fun i hi => hi.2.2) (fun i hi => ⟨by simpa using hi.1, hi.2⟩)
    clear h_v9
    refine hK.out _ _ (⟨trivial, six_ V_v9.out, six_ X_v9.out⟩) (fun hHeld => ?_)
    clear hK K
    try simp only [Act.put, List.setIfInBounds_toArray, List.set_cons_zero, List.set_cons_succ]
    refine wpAnyL_ready (rs := [7]) (by kernel_rfl) (by simp) ?_
    refine AllReadyL.late (o := { dst := none, op := .store 25 (.tmp 8) (.tmp 31), type := 0, pos := "law.go:88", after := #[{ on := 5, ground := .data }, { on := 3, ground := .data }, { on := 6, ground := .chain }, { on := 0, ground := .phase }, { on := 1, ground := .phase }, { on := 2, ground := .phase }, { on := 3, ground := .phase }, { on := 4, ground := .phase }, { on := 5, ground := .phase }, { on := 6, ground := .phase }], guard := none }) rfl (by kernel_rfl) (fun K hK => ?_) AllReadyL.nil
    have s0 : v9.cell? ⟨v2.heap.size, 0, none⟩ = some (.int .i64 0) := G8_v9.out.cell 0
    have s_0 := G8_v9.out.free 0
    have s1 : v9.cell? ⟨v2.heap.size, 1, none⟩ = some (.int .i64 0) := G8_v9.out.cell 1
    have s_1 := G8_v9.out.free 1
    have s2 : v9.cell? ⟨v2.heap.size, 2, none⟩ = some (.int .i64 0) := G8_v9.out.cell 2
    have s_2 := G8_v9.out.free 2
    have s3 : v9.cell? ⟨v2.heap.size, 3, none⟩ = some (.string ⟨#[]⟩) := G8_v9.out.cell 3
    have s_3 := G8_v9.out.free 3
    have s4 : v9.cell? ⟨v2.heap.size, 4, none⟩ = some (.slice none 0 0) := G8_v9.out.cell 4
    have s_4 := G8_v9.out.free 4
    have s5 : v9.cell? ⟨v2.heap.size, 5, none⟩ = some (.slice none 0 0) := G8_v9.out.cell 5
    have s_5 := G8_v9.out.free 5
    go_simp
    obtain ⟨v10, h_v10⟩ : ∃ v, ((((((v9.setCell ⟨v2.heap.size, 0, none⟩ (.int .i64 m.kind)).setCell ⟨v2.heap.size, 1, none⟩ (.int .i64 m.int)).setCell ⟨v2.heap.size, 2, none⟩ (.int .i64 m.scale)).setCell ⟨v2.heap.size, 3, none⟩ (.string (str m.text))).setCell ⟨v2.heap.size, 4, none⟩ (.slice Dn m.names.length fn)).setCell ⟨v2.heap.size, 5, none⟩ (.slice Dk q.len fk)) = v := ⟨_, rfl⟩
    rw [h_v10]
    clear s0 s_0 s1 s_1 s2 s_2 s3 s_3 s4 s_4 s5 s_5
    have B_v10 : Hid (Below w.heap.size w v10) := by show Below _ _ _; rw [← h_v10]; exact below_six B_v9.out (by omega)
    have G8_v10 : Hid (Blk v10 v2.heap.size #[.int .i64 m.kind, .int .i64 m.int, .int .i64 m.scale, .string (str m.text), .slice Dn m.names.length fn, .slice Dk q.len fk] 25) := by show Blk _ _ _ _; rw [← h_v10]; exact Blk.put6 G8_v9.out
    have V_v10 := Lib.hid (show Blk v10 _ _ _ from by rw [← h_v10]; exact Blk.six_other V_v9.out (by omega))
    have X_v10 := Lib.hid (show Blk v10 _ _ _ from by rw [← h_v10]; exact Blk.six_other X_v9.out (by omega))
    have G7_v10 := Lib.hid (show Blk v10 _ _ _ from by rw [← h_v10]; exact Blk.six_other G7_v9.out (by omega))
    have C_v10 : Hid (Vo v10 (fun i => i < v10.heap.size ∧ i ≠ v2.heap.size ∧ i ≠ v7.heap.size) n k (agN n Cn en Ck k.len ek)) := by show Vo _ _ _ _ _; rw [← h_v10]; exact vo_six C_v9.out (fun i hi => hi.2.1) (fun i hi => ⟨by simpa using hi.1, hi.2⟩)
    have D_v10 : Hid (Vo v10 (fun i => i < v10.heap.size ∧ i ≠ v2.heap.size ∧ i ≠ v7.heap.size) m q (agN m Dn fn Dk q.len fk)) := by show Vo _ _ _ _ _; rw [← h_v10]; exact vo_six D_v9.out (fun i hi => hi.2.1) (fun i hi => ⟨by simpa using hi.1, hi.2⟩)
    clear h_v10
    have FIN : VF3 w n k An cn Ak ck m q Bn dn Bk dk (.pointer (some ⟨v7.heap.size, 0, none⟩)) (.pointer (some ⟨v2.heap.size, 0, none⟩)) v10 := ⟨v7.heap.size, v2.heap.size, Cn, en, Ck, ek, Dn, fn, Dk, fk, rfl, rfl, st_four B_v10.out ⟨V_v10.out, HV0.out.upto B_v10.out⟩ ⟨X_v10.out, HV1.out.upto B_v10.out⟩ ⟨G7_v10.out, C_v10.out.keep (fun _ _ => rfl) (fun i hi => hi.1)⟩ ⟨G8_v10.out, D_v10.out.keep (fun _ _ => rfl) (fun i hi => hi.1)⟩⟩
    refine hK.out _ _ (⟨six_ V_v10.out, six_ X_v10.out⟩) (fun hHeld => ?_)
    clear hK K
    try simp only [Act.put, List.setIfInBounds_toArray, List.set_cons_zero, List.set_cons_succ]
    refine wpAnyL_done (by kernel_rfl) ?_ _
    rotate_left 1
    refine AllReadyL.cons (o := { dst := some 7, op := .alloc 25, type := 0, pos := "law.go:88", after := #[], guard := none }) rfl (fun K hK => ?_) ?_
    go_simp
    obtain ⟨v11, h_v11⟩ : ∃ v, v1.alloc (.cells #[.int .i64 0, .int .i64 0, .int .i64 0, .string ⟨#[]⟩, .slice none 0 0, .slice none 0 0] 25) = v := ⟨_, rfl⟩
    rw [h_v11]
    have b_v11 : Below v1.heap.size v1 v11 := by rw [← h_v11]; exact (Below.refl _ _).alloc (Nat.le_refl _) _
    have B_v11 : Hid (Below w.heap.size w v11) := B_v1.out.trans (b_v11.mono B_v1.out.size)
    have z_v11 : v1.heap.size ≤ v11.heap.size := b_v11.size
    have V_v11 := Lib.hid (V_v1.out.below b_v11 V_v1.out.lt)
    have X_v11 := Lib.hid (X_v1.out.below b_v11 X_v1.out.lt)
    have C_v11 := Lib.hid (Vo.keep (w' := v11) (S' := fun i => i < v11.heap.size ∧ i ≠ v1.heap.size) C_v1.out (fun i hi => b_v11.block i hi) (fun i hi => ⟨Nat.lt_of_lt_of_le hi b_v11.size, by have := hi; omega⟩))
    have G7_v11 : Hid (Blk v11 v1.heap.size #[.int .i64 0, .int .i64 0, .int .i64 0, .string ⟨#[]⟩, .slice none 0 0, .slice none 0 0] 25) := by show Blk _ _ _ _; rw [← h_v11]; exact Blk.new _ _ _
    have hg7 : w.heap.size + 1 < v1.heap.size := X_v1.out.lt
    clear h_v11
    refine hK.out _ _ (⟨trivial, six_ V_v11.out, six_ X_v11.out⟩) (fun hHeld => ?_)
    clear hK K
    try simp only [Act.put, List.setIfInBounds_toArray, List.set_cons_zero, List.set_cons_succ]
    refine wpAnyL_ready (rs := [3, 5]) (by kernel_rfl) (by simp) ?_
    refine AllReadyL.cons (o := { dst := some 31, op := .call { callee := .value (.func 8), args := #[.tmp 30], argTypes := #[25] }, type := 25, pos := "law.go:88", after := #[{ on := 2, ground := .data }, { on := 1, ground := .chain }], guard := none }) rfl (fun K hK => ?_) ?_
    go_simp
    refine ((unhide HO2) v11 (HV1.out.upto B_v11.out)).mono ?_
    rintro e v12 ⟨vv, rfl, vo_v12, b_v12⟩
    have vo2 := vo_v12.keep (w' := v12) (S' := fun i => i < v12.heap.size ∧ i ≠ v1.heap.size) (fun _ _ => rfl) (fun i hi => ⟨hi.2, by have := hi.1; have := G7_v11.out.lt; omega⟩)
    clear vo_v12
    obtain ⟨Dn, fn, Dk, fk, rfl, _, _, _, _, _⟩ := id vo2
    unfold ncells at vo2
    unfold ncells
    have B_v12 : Hid (Below w.heap.size w v12) := B_v11.out.trans (b_v12.mono B_v11.out.size)
    have z_v12 : v11.heap.size ≤ v12.heap.size := b_v12.size
    have V_v12 := Lib.hid (V_v11.out.below b_v12 V_v11.out.lt)
    have X_v12 := Lib.hid (X_v11.out.below b_v12 X_v11.out.lt)
    have G7_v12 := Lib.hid (G7_v11.out.below b_v12 G7_v11.out.lt)
    have C_v12 := Lib.hid (Vo.keep (w' := v12) (S' := fun i => i < v12.heap.size ∧ i ≠ v1.heap.size) C_v11.out (fun i hi => b_v12.block i hi.1) (fun i hi => ⟨Nat.lt_of_lt_of_le hi.1 b_v12.size, hi.2⟩))
    have D_v12 := Lib.hid vo2
    clear vo2
    go_wp2_with fail
    refine hK.out _ _ (⟨trivial, six_ V_v12.out, six_ X_v12.out⟩) (fun hHeld => ?_)
    clear hK K
    try simp only [Act.put, List.setIfInBounds_toArray, List.set_cons_zero, List.set_cons_succ]
    refine wpAnyL_ready (rs := [5]) (by kernel_rfl) (by simp) ?_
    refine AllReadyL.cons (o := { dst := some 8, op := .alloc 25, type := 0, pos := "law.go:88", after := #[], guard := none }) rfl (fun K hK => ?_) AllReadyL.nil
    go_simp
    obtain ⟨v13, h_v13⟩ : ∃ v, v12.alloc (.cells #[.int .i64 0, .int .i64 0, .int .i64 0, .string ⟨#[]⟩, .slice none 0 0, .slice none 0 0] 25) = v := ⟨_, rfl⟩
    rw [h_v13]
    have b_v13 : Below v12.heap.size v12 v13 := by rw [← h_v13]; exact (Below.refl _ _).alloc (Nat.le_refl _) _
    have B_v13 : Hid (Below w.heap.size w v13) := B_v12.out.trans (b_v13.mono B_v12.out.size)
    have z_v13 : v12.heap.size ≤ v13.heap.size := b_v13.size
    have V_v13 := Lib.hid (V_v12.out.below b_v13 V_v12.out.lt)
    have X_v13 := Lib.hid (X_v12.out.below b_v13 X_v12.out.lt)
    have G7_v13 := Lib.hid (G7_v12.out.below b_v13 G7_v12.out.lt)
    have C_v13 := Lib.hid (Vo.keep (w' := v13) (S' := fun i => i < v13.heap.size ∧ i ≠ v1.heap.size ∧ i ≠ v12.heap.size) C_v12.out (fun i hi => b_v13.block i hi.1) (fun i hi => ⟨Nat.lt_of_lt_of_le hi.1 b_v13.size, hi.2, by have := hi.1; omega⟩))
    have D_v13 := Lib.hid (Vo.keep (w' := v13) (S' := fun i => i < v13.heap.size ∧ i ≠ v1.heap.size ∧ i ≠ v12.heap.size) D_v12.out (fun i hi => b_v13.block i hi.1) (fun i hi => ⟨Nat.lt_of_lt_of_le hi.1 b_v13.size, hi.2, by have := hi.1; omega⟩))
    have G8_v13 : Hid (Blk v13 v12.heap.size #[.int .i64 0, .int .i64 0, .int .i64 0, .string ⟨#[]⟩, .slice none 0 0, .slice none 0 0] 25) := by show Blk _ _ _ _; rw [← h_v13]; exact Blk.new _ _ _
    have hg8 : w.heap.size + 1 < v12.heap.size := X_v12.out.lt
    have hgg : v1.heap.size < v12.heap.size := G7_v12.out.lt
    clear h_v13
    refine hK.out _ _ (⟨trivial, six_ V_v13.out, six_ X_v13.out⟩) (fun hHeld => ?_)
    clear hK K
    try simp only [Act.put, List.setIfInBounds_toArray, List.set_cons_zero, List.set_cons_succ]
    refine wpAnyL_ready (rs := [6]) (by kernel_rfl) (by simp) ?_
    refine AllReadyL.cons (o := { dst := none, op := .store 25 (.tmp 7) (.tmp 29), type := 0, pos := "law.go:88", after := #[{ on := 4, ground := .data }, { on := 1, ground := .data }, { on := 3, ground := .chain }, { on := 0, ground := .phase }, { on := 1, ground := .phase }, { on := 2, ground := .textOnly Go.Departure.lateStores }, { on := 3, ground := .textOnly Go.Departure.lateStoresUnsure }, { on := 4, ground := .phase }, { on := 5, ground := .phase }], guard := none }) rfl (fun K hK => ?_) AllReadyL.nil
    have s0 : v13.cell? ⟨v1.heap.size, 0, none⟩ = some (.int .i64 0) := G7_v13.out.cell 0
    have s_0 := G7_v13.out.free 0
    have s1 : v13.cell? ⟨v1.heap.size, 1, none⟩ = some (.int .i64 0) := G7_v13.out.cell 1
    have s_1 := G7_v13.out.free 1
    have s2 : v13.cell? ⟨v1.heap.size, 2, none⟩ = some (.int .i64 0) := G7_v13.out.cell 2
    have s_2 := G7_v13.out.free 2
    have s3 : v13.cell? ⟨v1.heap.size, 3, none⟩ = some (.string ⟨#[]⟩) := G7_v13.out.cell 3
    have s_3 := G7_v13.out.free 3
    have s4 : v13.cell? ⟨v1.heap.size, 4, none⟩ = some (.slice none 0 0) := G7_v13.out.cell 4
    have s_4 := G7_v13.out.free 4
    have s5 : v13.cell? ⟨v1.heap.size, 5, none⟩ = some (.slice none 0 0) := G7_v13.out.cell 5
    have s_5 := G7_v13.out.free 5
    go_simp
    obtain ⟨v14, h_v14⟩ : ∃ v, ((((((v13.setCell ⟨v1.heap.size, 0, none⟩ (.int .i64 n.kind)).setCell ⟨v1.heap.size, 1, none⟩ (.int .i64 n.int)).setCell ⟨v1.heap.size, 2, none⟩ (.int .i64 n.scale)).setCell ⟨v1.heap.size, 3, none⟩ (.string (str n.text))).setCell ⟨v1.heap.size, 4, none⟩ (.slice Cn n.names.length en)).setCell ⟨v1.heap.size, 5, none⟩ (.slice Ck k.len ek)) = v := ⟨_, rfl⟩
    rw [h_v14]
    clear s0 s_0 s1 s_1 s2 s_2 s3 s_3 s4 s_4 s5 s_5
    have B_v14 : Hid (Below w.heap.size w v14) := by show Below _ _ _; rw [← h_v14]; exact below_six B_v13.out (by omega)
    have G7_v14 : Hid (Blk v14 v1.heap.size #[.int .i64 n.kind, .int .i64 n.int, .int .i64 n.scale, .string (str n.text), .slice Cn n.names.length en, .slice Ck k.len ek] 25) := by show Blk _ _ _ _; rw [← h_v14]; exact Blk.put6 G7_v13.out
    have V_v14 := Lib.hid (show Blk v14 _ _ _ from by rw [← h_v14]; exact Blk.six_other V_v13.out (by omega))
    have X_v14 := Lib.hid (show Blk v14 _ _ _ from by rw [← h_v14]; exact Blk.six_other X_v13.out (by omega))
    have G8_v14 := Lib.hid (show Blk v14 _ _ _ from by rw [← h_v14]; exact Blk.six_other G8_v13.out (by omega))
    have C_v14 : Hid (Vo v14 (fun i => i < v14.heap.size ∧ i ≠ v1.heap.size ∧ i ≠ v12.heap.size) n k (agN n Cn en Ck k.len ek)) := by show Vo _ _ _ _ _; rw [← h_v14]; exact vo_six C_v13.out (fun i hi => hi.2.1) (fun i hi => ⟨by simpa using hi.1, hi.2⟩)
    have D_v14 : Hid (Vo v14 (fun i => i < v14.heap.size ∧ i ≠ v1.heap.size ∧ i ≠ v12.heap.size) m q (agN m Dn fn Dk q.len fk)) := by show Vo _ _ _ _ _; rw [← h_v14]; exact vo_six D_v13.out (fun i hi => hi.2.1) (fun i hi => ⟨by simpa using hi.1, hi.2⟩)
    clear h_v14
    refine hK.out _ _ (⟨trivial, six_ V_v14.out, six_ X_v14.out⟩) (fun hHeld => ?_)
    clear hK K
    try simp only [Act.put, List.setIfInBounds_toArray, List.set_cons_zero, List.set_cons_succ]
    refine wpAnyL_ready (rs := [7]) (by kernel_rfl) (by simp) ?_
    refine AllReadyL.late (o := { dst := none, op := .store 25 (.tmp 8) (.tmp 31), type := 0, pos := "law.go:88", after := #[{ on := 5, ground := .data }, { on := 3, ground := .data }, { on := 6, ground := .chain }, { on := 0, ground := .phase }, { on := 1, ground := .phase }, { on := 2, ground := .phase }, { on := 3, ground := .phase }, { on := 4, ground := .phase }, { on := 5, ground := .phase }, { on := 6, ground := .phase }], guard := none }) rfl (by kernel_rfl) (fun K hK => ?_) AllReadyL.nil
    have s0 : v14.cell? ⟨v12.heap.size, 0, none⟩ = some (.int .i64 0) := G8_v14.out.cell 0
    have s_0 := G8_v14.out.free 0
    have s1 : v14.cell? ⟨v12.heap.size, 1, none⟩ = some (.int .i64 0) := G8_v14.out.cell 1
    have s_1 := G8_v14.out.free 1
    have s2 : v14.cell? ⟨v12.heap.size, 2, none⟩ = some (.int .i64 0) := G8_v14.out.cell 2
    have s_2 := G8_v14.out.free 2
    have s3 : v14.cell? ⟨v12.heap.size, 3, none⟩ = some (.string ⟨#[]⟩) := G8_v14.out.cell 3
    have s_3 := G8_v14.out.free 3
    have s4 : v14.cell? ⟨v12.heap.size, 4, none⟩ = some (.slice none 0 0) := G8_v14.out.cell 4
    have s_4 := G8_v14.out.free 4
    have s5 : v14.cell? ⟨v12.heap.size, 5, none⟩ = some (.slice none 0 0) := G8_v14.out.cell 5
    have s_5 := G8_v14.out.free 5
    go_simp
    obtain ⟨v15, h_v15⟩ : ∃ v, ((((((v14.setCell ⟨v12.heap.size, 0, none⟩ (.int .i64 m.kind)).setCell ⟨v12.heap.size, 1, none⟩ (.int .i64 m.int)).setCell ⟨v12.heap.size, 2, none⟩ (.int .i64 m.scale)).setCell ⟨v12.heap.size, 3, none⟩ (.string (str m.text))).setCell ⟨v12.heap.size, 4, none⟩ (.slice Dn m.names.length fn)).setCell ⟨v12.heap.size, 5, none⟩ (.slice Dk q.len fk)) = v := ⟨_, rfl⟩
    rw [h_v15]
    clear s0 s_0 s1 s_1 s2 s_2 s3 s_3 s4 s_4 s5 s_5
    have B_v15 : Hid (Below w.heap.size w v15) := by show Below _ _ _; rw [← h_v15]; exact below_six B_v14.out (by omega)
    have G8_v15 : Hid (Blk v15 v12.heap.size #[.int .i64 m.kind, .int .i64 m.int, .int .i64 m.scale, .string (str m.text), .slice Dn m.names.length fn, .slice Dk q.len fk] 25) := by show Blk _ _ _ _; rw [← h_v15]; exact Blk.put6 G8_v14.out
    have V_v15 := Lib.hid (show Blk v15 _ _ _ from by rw [← h_v15]; exact Blk.six_other V_v14.out (by omega))
    have X_v15 := Lib.hid (show Blk v15 _ _ _ from by rw [← h_v15]; exact Blk.six_other X_v14.out (by omega))
    have G7_v15 := Lib.hid (show Blk v15 _ _ _ from by rw [← h_v15]; exact Blk.six_other G7_v14.out (by omega))
    have C_v15 : Hid (Vo v15 (fun i => i < v15.heap.size ∧ i ≠ v1.heap.size ∧ i ≠ v12.heap.size) n k (agN n Cn en Ck k.len ek)) := by show Vo _ _ _ _ _; rw [← h_v15]; exact vo_six C_v14.out (fun i hi => hi.2.2) (fun i hi => ⟨by simpa using hi.1, hi.2⟩)
    have D_v15 : Hid (Vo v15 (fun i => i < v15.heap.size ∧ i ≠ v1.heap.size ∧ i ≠ v12.heap.size) m q (agN m Dn fn Dk q.len fk)) := by show Vo _ _ _ _ _; rw [← h_v15]; exact vo_six D_v14.out (fun i hi => hi.2.2) (fun i hi => ⟨by simpa using hi.1, hi.2⟩)
    clear h_v15
    have FIN : VF3 w n k An cn Ak ck m q Bn dn Bk dk (.pointer (some ⟨v1.heap.size, 0, none⟩)) (.pointer (some ⟨v12.heap.size, 0, none⟩)) v15 := ⟨v1.heap.size, v12.heap.size, Cn, en, Ck, ek, Dn, fn, Dk, fk, rfl, rfl, st_four B_v15.out ⟨V_v15.out, HV0.out.upto B_v15.out⟩ ⟨X_v15.out, HV1.out.upto B_v15.out⟩ ⟨G7_v15.out, C_v15.out.keep (fun _ _ => rfl) (fun i hi => hi.1)⟩ ⟨G8_v15.out, D_v15.out.keep (fun _ _ => rfl) (fun i hi => hi.1)⟩⟩
    refine hK.out _ _ (⟨six_ V_v15.out, six_ X_v15.out⟩) (fun hHeld => ?_)
    clear hK K
    try simp only [Act.put, List.setIfInBounds_toArray, List.set_cons_zero, List.set_cons_succ]
    refine wpAnyL_done (by kernel_rfl) ?_ _
    rotate_left 1
    refine AllReadyL.cons (o := { dst := some 8, op := .alloc 25, type := 0, pos := "law.go:88", after := #[], guard := none }) rfl (fun K hK => ?_) AllReadyL.nil
    go_simp
    obtain ⟨v16, h_v16⟩ : ∃ v, v11.alloc (.cells #[.int .i64 0, .int .i64 0, .int .i64 0, .string ⟨#[]⟩, .slice none 0 0, .slice none 0 0] 25) = v := ⟨_, rfl⟩
    rw [h_v16]
    have b_v16 : Below v11.heap.size v11 v16 := by rw [← h_v16]; exact (Below.refl _ _).alloc (Nat.le_refl _) _
    have B_v16 : Hid (Below w.heap.size w v16) := B_v11.out.trans (b_v16.mono B_v11.out.size)
    have z_v16 : v11.heap.size ≤ v16.heap.size := b_v16.size
    have V_v16 := Lib.hid (V_v11.out.below b_v16 V_v11.out.lt)
    have X_v16 := Lib.hid (X_v11.out.below b_v16 X_v11.out.lt)
    have G7_v16 := Lib.hid (G7_v11.out.below b_v16 G7_v11.out.lt)
    have C_v16 := Lib.hid (Vo.keep (w' := v16) (S' := fun i => i < v16.heap.size ∧ i ≠ v1.heap.size ∧ i ≠ v11.heap.size) C_v11.out (fun i hi => b_v16.block i hi.1) (fun i hi => ⟨Nat.lt_of_lt_of_le hi.1 b_v16.size, hi.2, by have := hi.1; omega⟩))
    have G8_v16 : Hid (Blk v16 v11.heap.size #[.int .i64 0, .int .i64 0, .int .i64 0, .string ⟨#[]⟩, .slice none 0 0, .slice none 0 0] 25) := by show Blk _ _ _ _; rw [← h_v16]; exact Blk.new _ _ _
    have hg8 : w.heap.size + 1 < v11.heap.size := X_v11.out.lt
    have hgg : v1.heap.size < v11.heap.size := G7_v11.out.lt
    clear h_v16
    refine hK.out _ _ (⟨trivial, six_ V_v16.out, six_ X_v16.out⟩) (fun hHeld => ?_)
    clear hK K
    try simp only [Act.put, List.setIfInBounds_toArray, List.set_cons_zero, List.set_cons_succ]
    refine wpAnyL_ready (rs := [3]) (by kernel_rfl) (by simp) ?_
    refine AllReadyL.cons (o := { dst := some 31, op := .call { callee := .value (.func 8), args := #[.tmp 30], argTypes := #[25] }, type := 25, pos := "law.go:88", after := #[{ on := 2, ground := .data }, { on := 1, ground := .chain }], guard := none }) rfl (fun K hK => ?_) AllReadyL.nil
    go_simp
    refine ((unhide HO2) v16 (HV1.out.upto B_v16.out)).mono ?_
    rintro e v17 ⟨vv, rfl, vo_v17, b_v17⟩
    have vo2 := vo_v17.keep (w' := v17) (S' := fun i => i < v17.heap.size ∧ i ≠ v1.heap.size ∧ i ≠ v11.heap.size) (fun _ _ => rfl) (fun i hi => ⟨hi.2, by have := hi.1; have := G7_v16.out.lt; omega, by have := hi.1; have := G8_v16.out.lt; omega⟩)
    clear vo_v17
    obtain ⟨Dn, fn, Dk, fk, rfl, _, _, _, _, _⟩ := id vo2
    unfold ncells at vo2
    unfold ncells
    have B_v17 : Hid (Below w.heap.size w v17) := B_v16.out.trans (b_v17.mono B_v16.out.size)
    have z_v17 : v16.heap.size ≤ v17.heap.size := b_v17.size
    have V_v17 := Lib.hid (V_v16.out.below b_v17 V_v16.out.lt)
    have X_v17 := Lib.hid (X_v16.out.below b_v17 X_v16.out.lt)
    have G7_v17 := Lib.hid (G7_v16.out.below b_v17 G7_v16.out.lt)
    have G8_v17 := Lib.hid (G8_v16.out.below b_v17 G8_v16.out.lt)
    have C_v17 := Lib.hid (Vo.keep (w' := v17) (S' := fun i => i < v17.heap.size ∧ i ≠ v1.heap.size ∧ i ≠ v11.heap.size) C_v16.out (fun i hi => b_v17.block i hi.1) (fun i hi => ⟨Nat.lt_of_lt_of_le hi.1 b_v17.size, hi.2⟩))
    have D_v17 := Lib.hid vo2
    clear vo2
    go_wp2_with fail
    refine hK.out _ _ (⟨trivial, six_ V_v17.out, six_ X_v17.out⟩) (fun hHeld => ?_)
    clear hK K
    try simp only [Act.put, List.setIfInBounds_toArray, List.set_cons_zero, List.set_cons_succ]
    refine wpAnyL_ready (rs := [6]) (by kernel_rfl) (by simp) ?_
    refine AllReadyL.cons (o := { dst := none, op := .store 25 (.tmp 7) (.tmp 29), type := 0, pos := "law.go:88", after := #[{ on := 4, ground := .data }, { on := 1, ground := .data }, { on := 3, ground := .chain }, { on := 0, ground := .phase }, { on := 1, ground := .phase }, { on := 2, ground := .textOnly Go.Departure.lateStores }, { on := 3, ground := .textOnly Go.Departure.lateStoresUnsure }, { on := 4, ground := .phase }, { on := 5, ground := .phase }], guard := none }) rfl (fun K hK => ?_) AllReadyL.nil
    have s0 : v17.cell? ⟨v1.heap.size, 0, none⟩ = some (.int .i64 0) := G7_v17.out.cell 0
    have s_0 := G7_v17.out.free 0
    have s1 : v17.cell? ⟨v1.heap.size, 1, none⟩ = some (.int .i64 0) := G7_v17.out.cell 1
    have s_1 := G7_v17.out.free 1
    have s2 : v17.cell? ⟨v1.heap.size, 2, none⟩ = some (.int .i64 0) := G7_v17.out.cell 2
    have s_2 := G7_v17.out.free 2
    have s3 : v17.cell? ⟨v1.heap.size, 3, none⟩ = some (.string ⟨#[]⟩) := G7_v17.out.cell 3
    have s_3 := G7_v17.out.free 3
    have s4 : v17.cell? ⟨v1.heap.size, 4, none⟩ = some (.slice none 0 0) := G7_v17.out.cell 4
    have s_4 := G7_v17.out.free 4
    have s5 : v17.cell? ⟨v1.heap.size, 5, none⟩ = some (.slice none 0 0) := G7_v17.out.cell 5
    have s_5 := G7_v17.out.free 5
    go_simp
    obtain ⟨v18, h_v18⟩ : ∃ v, ((((((v17.setCell ⟨v1.heap.size, 0, none⟩ (.int .i64 n.kind)).setCell ⟨v1.heap.size, 1, none⟩ (.int .i64 n.int)).setCell ⟨v1.heap.size, 2, none⟩ (.int .i64 n.scale)).setCell ⟨v1.heap.size, 3, none⟩ (.string (str n.text))).setCell ⟨v1.heap.size, 4, none⟩ (.slice Cn n.names.length en)).setCell ⟨v1.heap.size, 5, none⟩ (.slice Ck k.len ek)) = v := ⟨_, rfl⟩
    rw [h_v18]
    clear s0 s_0 s1 s_1 s2 s_2 s3 s_3 s4 s_4 s5 s_5
    have B_v18 : Hid (Below w.heap.size w v18) := by show Below _ _ _; rw [← h_v18]; exact below_six B_v17.out (by omega)
    have G7_v18 : Hid (Blk v18 v1.heap.size #[.int .i64 n.kind, .int .i64 n.int, .int .i64 n.scale, .string (str n.text), .slice Cn n.names.length en, .slice Ck k.len ek] 25) := by show Blk _ _ _ _; rw [← h_v18]; exact Blk.put6 G7_v17.out
    have V_v18 := Lib.hid (show Blk v18 _ _ _ from by rw [← h_v18]; exact Blk.six_other V_v17.out (by omega))
    have X_v18 := Lib.hid (show Blk v18 _ _ _ from by rw [← h_v18]; exact Blk.six_other X_v17.out (by omega))
    have G8_v18 := Lib.hid (show Blk v18 _ _ _ from by rw [← h_v18]; exact Blk.six_other G8_v17.out (by omega))
    have C_v18 : Hid (Vo v18 (fun i => i < v18.heap.size ∧ i ≠ v1.heap.size ∧ i ≠ v11.heap.size) n k (agN n Cn en Ck k.len ek)) := by show Vo _ _ _ _ _; rw [← h_v18]; exact vo_six C_v17.out (fun i hi => hi.2.1) (fun i hi => ⟨by simpa using hi.1, hi.2⟩)
    have D_v18 : Hid (Vo v18 (fun i => i < v18.heap.size ∧ i ≠ v1.heap.size ∧ i ≠ v11.heap.size) m q (agN m Dn fn Dk q.len fk)) := by show Vo _ _ _ _ _; rw [← h_v18]; exact vo_six D_v17.out (fun i hi => hi.2.1) (fun i hi => ⟨by simpa using hi.1, hi.2⟩)
    clear h_v18
    refine hK.out _ _ (⟨trivial, six_ V_v18.out, six_ X_v18.out⟩) (fun hHeld => ?_)
    clear hK K
    try simp only [Act.put, List.setIfInBounds_toArray, List.set_cons_zero, List.set_cons_succ]
    refine wpAnyL_ready (rs := [7]) (by kernel_rfl) (by simp) ?_
    refine AllReadyL.late (o := { dst := none, op := .store 25 (.tmp 8) (.tmp 31), type := 0, pos := "law.go:88", after := #[{ on := 5, ground := .data }, { on := 3, ground := .data }, { on := 6, ground := .chain }, { on := 0, ground := .phase }, { on := 1, ground := .phase }, { on := 2, ground := .phase }, { on := 3, ground := .phase }, { on := 4, ground := .phase }, { on := 5, ground := .phase }, { on := 6, ground := .phase }], guard := none }) rfl (by kernel_rfl) (fun K hK => ?_) AllReadyL.nil
    have s0 : v18.cell? ⟨v11.heap.size, 0, none⟩ = some (.int .i64 0) := G8_v18.out.cell 0
    have s_0 := G8_v18.out.free 0
    have s1 : v18.cell? ⟨v11.heap.size, 1, none⟩ = some (.int .i64 0) := G8_v18.out.cell 1
    have s_1 := G8_v18.out.free 1
    have s2 : v18.cell? ⟨v11.heap.size, 2, none⟩ = some (.int .i64 0) := G8_v18.out.cell 2
    have s_2 := G8_v18.out.free 2
    have s3 : v18.cell? ⟨v11.heap.size, 3, none⟩ = some (.string ⟨#[]⟩) := G8_v18.out.cell 3
    have s_3 := G8_v18.out.free 3
    have s4 : v18.cell? ⟨v11.heap.size, 4, none⟩ = some (.slice none 0 0) := G8_v18.out.cell 4
    have s_4 := G8_v18.out.free 4
    have s5 : v18.cell? ⟨v11.heap.size, 5, none⟩ = some (.slice none 0 0) := G8_v18.out.cell 5
    have s_5 := G8_v18.out.free 5
    go_simp
    obtain ⟨v19, h_v19⟩ : ∃ v, ((((((v18.setCell ⟨v11.heap.size, 0, none⟩ (.int .i64 m.kind)).setCell ⟨v11.heap.size, 1, none⟩ (.int .i64 m.int)).setCell ⟨v11.heap.size, 2, none⟩ (.int .i64 m.scale)).setCell ⟨v11.heap.size, 3, none⟩ (.string (str m.text))).setCell ⟨v11.heap.size, 4, none⟩ (.slice Dn m.names.length fn)).setCell ⟨v11.heap.size, 5, none⟩ (.slice Dk q.len fk)) = v := ⟨_, rfl⟩
    rw [h_v19]
    clear s0 s_0 s1 s_1 s2 s_2 s3 s_3 s4 s_4 s5 s_5
    have B_v19 : Hid (Below w.heap.size w v19) := by show Below _ _ _; rw [← h_v19]; exact below_six B_v18.out (by omega)
    have G8_v19 : Hid (Blk v19 v11.heap.size #[.int .i64 m.kind, .int .i64 m.int, .int .i64 m.scale, .string (str m.text), .slice Dn m.names.length fn, .slice Dk q.len fk] 25) := by show Blk _ _ _ _; rw [← h_v19]; exact Blk.put6 G8_v18.out
    have V_v19 := Lib.hid (show Blk v19 _ _ _ from by rw [← h_v19]; exact Blk.six_other V_v18.out (by omega))
    have X_v19 := Lib.hid (show Blk v19 _ _ _ from by rw [← h_v19]; exact Blk.six_other X_v18.out (by omega))
    have G7_v19 := Lib.hid (show Blk v19 _ _ _ from by rw [← h_v19]; exact Blk.six_other G7_v18.out (by omega))
    have C_v19 : Hid (Vo v19 (fun i => i < v19.heap.size ∧ i ≠ v1.heap.size ∧ i ≠ v11.heap.size) n k (agN n Cn en Ck k.len ek)) := by show Vo _ _ _ _ _; rw [← h_v19]; exact vo_six C_v18.out (fun i hi => hi.2.2) (fun i hi => ⟨by simpa using hi.1, hi.2⟩)
    have D_v19 : Hid (Vo v19 (fun i => i < v19.heap.size ∧ i ≠ v1.heap.size ∧ i ≠ v11.heap.size) m q (agN m Dn fn Dk q.len fk)) := by show Vo _ _ _ _ _; rw [← h_v19]; exact vo_six D_v18.out (fun i hi => hi.2.2) (fun i hi => ⟨by simpa using hi.1, hi.2⟩)
    clear h_v19
    have FIN : VF3 w n k An cn Ak ck m q Bn dn Bk dk (.pointer (some ⟨v1.heap.size, 0, none⟩)) (.pointer (some ⟨v11.heap.size, 0, none⟩)) v19 := ⟨v1.heap.size, v11.heap.size, Cn, en, Ck, ek, Dn, fn, Dk, fk, rfl, rfl, st_four B_v19.out ⟨V_v19.out, HV0.out.upto B_v19.out⟩ ⟨X_v19.out, HV1.out.upto B_v19.out⟩ ⟨G7_v19.out, C_v19.out.keep (fun _ _ => rfl) (fun i hi => hi.1)⟩ ⟨G8_v19.out, D_v19.out.keep (fun _ _ => rfl) (fun i hi => hi.1)⟩⟩
    refine hK.out _ _ (⟨six_ V_v19.out, six_ X_v19.out⟩) (fun hHeld => ?_)
    clear hK K
    try simp only [Act.put, List.setIfInBounds_toArray, List.set_cons_zero, List.set_cons_succ]
    refine wpAnyL_done (by kernel_rfl) ?_ _
    rotate_left 1
    refine AllReadyL.cons (o := { dst := some 8, op := .alloc 25, type := 0, pos := "law.go:88", after := #[], guard := none }) rfl (fun K hK => ?_) AllReadyL.nil
    go_simp
    obtain ⟨v20, h_v20⟩ : ∃ v, v1.alloc (.cells #[.int .i64 0, .int .i64 0, .int .i64 0, .string ⟨#[]⟩, .slice none 0 0, .slice none 0 0] 25) = v := ⟨_, rfl⟩
    rw [h_v20]
    have b_v20 : Below v1.heap.size v1 v20 := by rw [← h_v20]; exact (Below.refl _ _).alloc (Nat.le_refl _) _
    have B_v20 : Hid (Below w.heap.size w v20) := B_v1.out.trans (b_v20.mono B_v1.out.size)
    have z_v20 : v1.heap.size ≤ v20.heap.size := b_v20.size
    have V_v20 := Lib.hid (V_v1.out.below b_v20 V_v1.out.lt)
    have X_v20 := Lib.hid (X_v1.out.below b_v20 X_v1.out.lt)
    have C_v20 := Lib.hid (Vo.keep (w' := v20) (S' := fun i => i < v20.heap.size ∧ i ≠ v1.heap.size) C_v1.out (fun i hi => b_v20.block i hi) (fun i hi => ⟨Nat.lt_of_lt_of_le hi b_v20.size, by have := hi; omega⟩))
    have G8_v20 : Hid (Blk v20 v1.heap.size #[.int .i64 0, .int .i64 0, .int .i64 0, .string ⟨#[]⟩, .slice none 0 0, .slice none 0 0] 25) := by show Blk _ _ _ _; rw [← h_v20]; exact Blk.new _ _ _
    have hg8 : w.heap.size + 1 < v1.heap.size := X_v1.out.lt
    clear h_v20
    refine hK.out _ _ (⟨trivial, six_ V_v20.out, six_ X_v20.out⟩) (fun hHeld => ?_)
    clear hK K
    try simp only [Act.put, List.setIfInBounds_toArray, List.set_cons_zero, List.set_cons_succ]
    refine wpAnyL_ready (rs := [3, 4]) (by kernel_rfl) (by simp) ?_
    refine AllReadyL.cons (o := { dst := some 31, op := .call { callee := .value (.func 8), args := #[.tmp 30], argTypes := #[25] }, type := 25, pos := "law.go:88", after := #[{ on := 2, ground := .data }, { on := 1, ground := .chain }], guard := none }) rfl (fun K hK => ?_) ?_
    go_simp
    refine ((unhide HO2) v20 (HV1.out.upto B_v20.out)).mono ?_
    rintro e v21 ⟨vv, rfl, vo_v21, b_v21⟩
    have vo2 := vo_v21.keep (w' := v21) (S' := fun i => i < v21.heap.size ∧ i ≠ v1.heap.size) (fun _ _ => rfl) (fun i hi => ⟨hi.2, by have := hi.1; have := G8_v20.out.lt; omega⟩)
    clear vo_v21
    obtain ⟨Dn, fn, Dk, fk, rfl, _, _, _, _, _⟩ := id vo2
    unfold ncells at vo2
    unfold ncells
    have B_v21 : Hid (Below w.heap.size w v21) := B_v20.out.trans (b_v21.mono B_v20.out.size)
    have z_v21 : v20.heap.size ≤ v21.heap.size := b_v21.size
    have V_v21 := Lib.hid (V_v20.out.below b_v21 V_v20.out.lt)
    have X_v21 := Lib.hid (X_v20.out.below b_v21 X_v20.out.lt)
    have G8_v21 := Lib.hid (G8_v20.out.below b_v21 G8_v20.out.lt)
    have C_v21 := Lib.hid (Vo.keep (w' := v21) (S' := fun i => i < v21.heap.size ∧ i ≠ v1.heap.size) C_v20.out (fun i hi => b_v21.block i hi.1) (fun i hi => ⟨Nat.lt_of_lt_of_le hi.1 b_v21.size, hi.2⟩))
    have D_v21 := Lib.hid vo2
    clear vo2
    go_wp2_with fail
    refine hK.out _ _ (⟨trivial, six_ V_v21.out, six_ X_v21.out⟩) (fun hHeld => ?_)
    clear hK K
    try simp only [Act.put, List.setIfInBounds_toArray, List.set_cons_zero, List.set_cons_succ]
    refine wpAnyL_ready (rs := [4]) (by kernel_rfl) (by simp) ?_
    refine AllReadyL.cons (o := { dst := some 7, op := .alloc 25, type := 0, pos := "law.go:88", after := #[], guard := none }) rfl (fun K hK => ?_) AllReadyL.nil
    go_simp
    obtain ⟨v22, h_v22⟩ : ∃ v, v21.alloc (.cells #[.int .i64 0, .int .i64 0, .int .i64 0, .string ⟨#[]⟩, .slice none 0 0, .slice none 0 0] 25) = v := ⟨_, rfl⟩
    rw [h_v22]
    have b_v22 : Below v21.heap.size v21 v22 := by rw [← h_v22]; exact (Below.refl _ _).alloc (Nat.le_refl _) _
    have B_v22 : Hid (Below w.heap.size w v22) := B_v21.out.trans (b_v22.mono B_v21.out.size)
    have z_v22 : v21.heap.size ≤ v22.heap.size := b_v22.size
    have V_v22 := Lib.hid (V_v21.out.below b_v22 V_v21.out.lt)
    have X_v22 := Lib.hid (X_v21.out.below b_v22 X_v21.out.lt)
    have G8_v22 := Lib.hid (G8_v21.out.below b_v22 G8_v21.out.lt)
    have C_v22 := Lib.hid (Vo.keep (w' := v22) (S' := fun i => i < v22.heap.size ∧ i ≠ v1.heap.size ∧ i ≠ v21.heap.size) C_v21.out (fun i hi => b_v22.block i hi.1) (fun i hi => ⟨Nat.lt_of_lt_of_le hi.1 b_v22.size, hi.2, by have := hi.1; omega⟩))
    have D_v22 := Lib.hid (Vo.keep (w' := v22) (S' := fun i => i < v22.heap.size ∧ i ≠ v1.heap.size ∧ i ≠ v21.heap.size) D_v21.out (fun i hi => b_v22.block i hi.1) (fun i hi => ⟨Nat.lt_of_lt_of_le hi.1 b_v22.size, hi.2, by have := hi.1; omega⟩))
    have G7_v22 : Hid (Blk v22 v21.heap.size #[.int .i64 0, .int .i64 0, .int .i64 0, .string ⟨#[]⟩, .slice none 0 0, .slice none 0 0] 25) := by show Blk _ _ _ _; rw [← h_v22]; exact Blk.new _ _ _
    have hg7 : w.heap.size + 1 < v21.heap.size := X_v21.out.lt
    have hgg : v1.heap.size < v21.heap.size := G8_v21.out.lt
    clear h_v22
    refine hK.out _ _ (⟨trivial, six_ V_v22.out, six_ X_v22.out⟩) (fun hHeld => ?_)
    clear hK K
    try simp only [Act.put, List.setIfInBounds_toArray, List.set_cons_zero, List.set_cons_succ]
    refine wpAnyL_ready (rs := [6]) (by kernel_rfl) (by simp) ?_
    refine AllReadyL.cons (o := { dst := none, op := .store 25 (.tmp 7) (.tmp 29), type := 0, pos := "law.go:88", after := #[{ on := 4, ground := .data }, { on := 1, ground := .data }, { on := 3, ground := .chain }, { on := 0, ground := .phase }, { on := 1, ground := .phase }, { on := 2, ground := .textOnly Go.Departure.lateStores }, { on := 3, ground := .textOnly Go.Departure.lateStoresUnsure }, { on := 4, ground := .phase }, { on := 5, ground := .phase }], guard := none }) rfl (fun K hK => ?_) AllReadyL.nil
    have s0 : v22.cell? ⟨v21.heap.size, 0, none⟩ = some (.int .i64 0) := G7_v22.out.cell 0
    have s_0 := G7_v22.out.free 0
    have s1 : v22.cell? ⟨v21.heap.size, 1, none⟩ = some (.int .i64 0) := G7_v22.out.cell 1
    have s_1 := G7_v22.out.free 1
    have s2 : v22.cell? ⟨v21.heap.size, 2, none⟩ = some (.int .i64 0) := G7_v22.out.cell 2
    have s_2 := G7_v22.out.free 2
    have s3 : v22.cell? ⟨v21.heap.size, 3, none⟩ = some (.string ⟨#[]⟩) := G7_v22.out.cell 3
    have s_3 := G7_v22.out.free 3
    have s4 : v22.cell? ⟨v21.heap.size, 4, none⟩ = some (.slice none 0 0) := G7_v22.out.cell 4
    have s_4 := G7_v22.out.free 4
    have s5 : v22.cell? ⟨v21.heap.size, 5, none⟩ = some (.slice none 0 0) := G7_v22.out.cell 5
    have s_5 := G7_v22.out.free 5
    go_simp
    obtain ⟨v23, h_v23⟩ : ∃ v, ((((((v22.setCell ⟨v21.heap.size, 0, none⟩ (.int .i64 n.kind)).setCell ⟨v21.heap.size, 1, none⟩ (.int .i64 n.int)).setCell ⟨v21.heap.size, 2, none⟩ (.int .i64 n.scale)).setCell ⟨v21.heap.size, 3, none⟩ (.string (str n.text))).setCell ⟨v21.heap.size, 4, none⟩ (.slice Cn n.names.length en)).setCell ⟨v21.heap.size, 5, none⟩ (.slice Ck k.len ek)) = v := ⟨_, rfl⟩
    rw [h_v23]
    clear s0 s_0 s1 s_1 s2 s_2 s3 s_3 s4 s_4 s5 s_5
    have B_v23 : Hid (Below w.heap.size w v23) := by show Below _ _ _; rw [← h_v23]; exact below_six B_v22.out (by omega)
    have G7_v23 : Hid (Blk v23 v21.heap.size #[.int .i64 n.kind, .int .i64 n.int, .int .i64 n.scale, .string (str n.text), .slice Cn n.names.length en, .slice Ck k.len ek] 25) := by show Blk _ _ _ _; rw [← h_v23]; exact Blk.put6 G7_v22.out
    have V_v23 := Lib.hid (show Blk v23 _ _ _ from by rw [← h_v23]; exact Blk.six_other V_v22.out (by omega))
    have X_v23 := Lib.hid (show Blk v23 _ _ _ from by rw [← h_v23]; exact Blk.six_other X_v22.out (by omega))
    have G8_v23 := Lib.hid (show Blk v23 _ _ _ from by rw [← h_v23]; exact Blk.six_other G8_v22.out (by omega))
    have C_v23 : Hid (Vo v23 (fun i => i < v23.heap.size ∧ i ≠ v1.heap.size ∧ i ≠ v21.heap.size) n k (agN n Cn en Ck k.len ek)) := by show Vo _ _ _ _ _; rw [← h_v23]; exact vo_six C_v22.out (fun i hi => hi.2.2) (fun i hi => ⟨by simpa using hi.1, hi.2⟩)
    have D_v23 : Hid (Vo v23 (fun i => i < v23.heap.size ∧ i ≠ v1.heap.size ∧ i ≠ v21.heap.size) m q (agN m Dn fn Dk q.len fk)) := by show Vo _ _ _ _ _; rw [← h_v23]; exact vo_six D_v22.out (fun i hi => hi.2.2) (fun i hi => ⟨by simpa using hi.1, hi.2⟩)
    clear h_v23
    refine hK.out _ _ (⟨trivial, six_ V_v23.out, six_ X_v23.out⟩) (fun hHeld => ?_)
    clear hK K
    try simp only [Act.put, List.setIfInBounds_toArray, List.set_cons_zero, List.set_cons_succ]
    refine wpAnyL_ready (rs := [7]) (by kernel_rfl) (by simp) ?_
    refine AllReadyL.late (o := { dst := none, op := .store 25 (.tmp 8) (.tmp 31), type := 0, pos := "law.go:88", after := #[{ on := 5, ground := .data }, { on := 3, ground := .data }, { on := 6, ground := .chain }, { on := 0, ground := .phase }, { on := 1, ground := .phase }, { on := 2, ground := .phase }, { on := 3, ground := .phase }, { on := 4, ground := .phase }, { on := 5, ground := .phase }, { on := 6, ground := .phase }], guard := none }) rfl (by kernel_rfl) (fun K hK => ?_) AllReadyL.nil
    have s0 : v23.cell? ⟨v1.heap.size, 0, none⟩ = some (.int .i64 0) := G8_v23.out.cell 0
    have s_0 := G8_v23.out.free 0
    have s1 : v23.cell? ⟨v1.heap.size, 1, none⟩ = some (.int .i64 0) := G8_v23.out.cell 1
    have s_1 := G8_v23.out.free 1
    have s2 : v23.cell? ⟨v1.heap.size, 2, none⟩ = some (.int .i64 0) := G8_v23.out.cell 2
    have s_2 := G8_v23.out.free 2
    have s3 : v23.cell? ⟨v1.heap.size, 3, none⟩ = some (.string ⟨#[]⟩) := G8_v23.out.cell 3
    have s_3 := G8_v23.out.free 3
    have s4 : v23.cell? ⟨v1.heap.size, 4, none⟩ = some (.slice none 0 0) := G8_v23.out.cell 4
    have s_4 := G8_v23.out.free 4
    have s5 : v23.cell? ⟨v1.heap.size, 5, none⟩ = some (.slice none 0 0) := G8_v23.out.cell 5
    have s_5 := G8_v23.out.free 5
    go_simp
    obtain ⟨v24, h_v24⟩ : ∃ v, ((((((v23.setCell ⟨v1.heap.size, 0, none⟩ (.int .i64 m.kind)).setCell ⟨v1.heap.size, 1, none⟩ (.int .i64 m.int)).setCell ⟨v1.heap.size, 2, none⟩ (.int .i64 m.scale)).setCell ⟨v1.heap.size, 3, none⟩ (.string (str m.text))).setCell ⟨v1.heap.size, 4, none⟩ (.slice Dn m.names.length fn)).setCell ⟨v1.heap.size, 5, none⟩ (.slice Dk q.len fk)) = v := ⟨_, rfl⟩
    rw [h_v24]
    clear s0 s_0 s1 s_1 s2 s_2 s3 s_3 s4 s_4 s5 s_5
    have B_v24 : Hid (Below w.heap.size w v24) := by show Below _ _ _; rw [← h_v24]; exact below_six B_v23.out (by omega)
    have G8_v24 : Hid (Blk v24 v1.heap.size #[.int .i64 m.kind, .int .i64 m.int, .int .i64 m.scale, .string (str m.text), .slice Dn m.names.length fn, .slice Dk q.len fk] 25) := by show Blk _ _ _ _; rw [← h_v24]; exact Blk.put6 G8_v23.out
    have V_v24 := Lib.hid (show Blk v24 _ _ _ from by rw [← h_v24]; exact Blk.six_other V_v23.out (by omega))
    have X_v24 := Lib.hid (show Blk v24 _ _ _ from by rw [← h_v24]; exact Blk.six_other X_v23.out (by omega))
    have G7_v24 := Lib.hid (show Blk v24 _ _ _ from by rw [← h_v24]; exact Blk.six_other G7_v23.out (by omega))
    have C_v24 : Hid (Vo v24 (fun i => i < v24.heap.size ∧ i ≠ v1.heap.size ∧ i ≠ v21.heap.size) n k (agN n Cn en Ck k.len ek)) := by show Vo _ _ _ _ _; rw [← h_v24]; exact vo_six C_v23.out (fun i hi => hi.2.1) (fun i hi => ⟨by simpa using hi.1, hi.2⟩)
    have D_v24 : Hid (Vo v24 (fun i => i < v24.heap.size ∧ i ≠ v1.heap.size ∧ i ≠ v21.heap.size) m q (agN m Dn fn Dk q.len fk)) := by show Vo _ _ _ _ _; rw [← h_v24]; exact vo_six D_v23.out (fun i hi => hi.2.1) (fun i hi => ⟨by simpa using hi.1, hi.2⟩)
    clear h_v24
    have FIN : VF3 w n k An cn Ak ck m q Bn dn Bk dk (.pointer (some ⟨v21.heap.size, 0, none⟩)) (.pointer (some ⟨v1.heap.size, 0, none⟩)) v24 := ⟨v21.heap.size, v1.heap.size, Cn, en, Ck, ek, Dn, fn, Dk, fk, rfl, rfl, st_four B_v24.out ⟨V_v24.out, HV0.out.upto B_v24.out⟩ ⟨X_v24.out, HV1.out.upto B_v24.out⟩ ⟨G7_v24.out, C_v24.out.keep (fun _ _ => rfl) (fun i hi => hi.1)⟩ ⟨G8_v24.out, D_v24.out.keep (fun _ _ => rfl) (fun i hi => hi.1)⟩⟩
    refine hK.out _ _ (⟨six_ V_v24.out, six_ X_v24.out⟩) (fun hHeld => ?_)
    clear hK K
    try simp only [Act.put, List.setIfInBounds_toArray, List.set_cons_zero, List.set_cons_succ]
    refine wpAnyL_done (by kernel_rfl) ?_ _
    rotate_left 1
    refine AllReadyL.cons (o := { dst := some 7, op := .alloc 25, type := 0, pos := "law.go:88", after := #[], guard := none }) rfl (fun K hK => ?_) AllReadyL.nil
    go_simp
    obtain ⟨v25, h_v25⟩ : ∃ v, v20.alloc (.cells #[.int .i64 0, .int .i64 0, .int .i64 0, .string ⟨#[]⟩, .slice none 0 0, .slice none 0 0] 25) = v := ⟨_, rfl⟩
    rw [h_v25]
    have b_v25 : Below v20.heap.size v20 v25 := by rw [← h_v25]; exact (Below.refl _ _).alloc (Nat.le_refl _) _
    have B_v25 : Hid (Below w.heap.size w v25) := B_v20.out.trans (b_v25.mono B_v20.out.size)
    have z_v25 : v20.heap.size ≤ v25.heap.size := b_v25.size
    have V_v25 := Lib.hid (V_v20.out.below b_v25 V_v20.out.lt)
    have X_v25 := Lib.hid (X_v20.out.below b_v25 X_v20.out.lt)
    have G8_v25 := Lib.hid (G8_v20.out.below b_v25 G8_v20.out.lt)
    have C_v25 := Lib.hid (Vo.keep (w' := v25) (S' := fun i => i < v25.heap.size ∧ i ≠ v1.heap.size ∧ i ≠ v20.heap.size) C_v20.out (fun i hi => b_v25.block i hi.1) (fun i hi => ⟨Nat.lt_of_lt_of_le hi.1 b_v25.size, hi.2, by have := hi.1; omega⟩))
    have G7_v25 : Hid (Blk v25 v20.heap.size #[.int .i64 0, .int .i64 0, .int .i64 0, .string ⟨#[]⟩, .slice none 0 0, .slice none 0 0] 25) := by show Blk _ _ _ _; rw [← h_v25]; exact Blk.new _ _ _
    have hg7 : w.heap.size + 1 < v20.heap.size := X_v20.out.lt
    have hgg : v1.heap.size < v20.heap.size := G8_v20.out.lt
    clear h_v25
    refine hK.out _ _ (⟨trivial, six_ V_v25.out, six_ X_v25.out⟩) (fun hHeld => ?_)
    clear hK K
    try simp only [Act.put, List.setIfInBounds_toArray, List.set_cons_zero, List.set_cons_succ]
    refine wpAnyL_ready (rs := [3]) (by kernel_rfl) (by simp) ?_
    refine AllReadyL.cons (o := { dst := some 31, op := .call { callee := .value (.func 8), args := #[.tmp 30], argTypes := #[25] }, type := 25, pos := "law.go:88", after := #[{ on := 2, ground := .data }, { on := 1, ground := .chain }], guard := none }) rfl (fun K hK => ?_) AllReadyL.nil
    go_simp
    refine ((unhide HO2) v25 (HV1.out.upto B_v25.out)).mono ?_
    rintro e v26 ⟨vv, rfl, vo_v26, b_v26⟩
    have vo2 := vo_v26.keep (w' := v26) (S' := fun i => i < v26.heap.size ∧ i ≠ v1.heap.size ∧ i ≠ v20.heap.size) (fun _ _ => rfl) (fun i hi => ⟨hi.2, by have := hi.1; have := G8_v25.out.lt; omega, by have := hi.1; have := G7_v25.out.lt; omega⟩)
    clear vo_v26
    obtain ⟨Dn, fn, Dk, fk, rfl, _, _, _, _, _⟩ := id vo2
    unfold ncells at vo2
    unfold ncells
    have B_v26 : Hid (Below w.heap.size w v26) := B_v25.out.trans (b_v26.mono B_v25.out.size)
    have z_v26 : v25.heap.size ≤ v26.heap.size := b_v26.size
    have V_v26 := Lib.hid (V_v25.out.below b_v26 V_v25.out.lt)
    have X_v26 := Lib.hid (X_v25.out.below b_v26 X_v25.out.lt)
    have G8_v26 := Lib.hid (G8_v25.out.below b_v26 G8_v25.out.lt)
    have G7_v26 := Lib.hid (G7_v25.out.below b_v26 G7_v25.out.lt)
    have C_v26 := Lib.hid (Vo.keep (w' := v26) (S' := fun i => i < v26.heap.size ∧ i ≠ v1.heap.size ∧ i ≠ v20.heap.size) C_v25.out (fun i hi => b_v26.block i hi.1) (fun i hi => ⟨Nat.lt_of_lt_of_le hi.1 b_v26.size, hi.2⟩))
    have D_v26 := Lib.hid vo2
    clear vo2
    go_wp2_with fail
    refine hK.out _ _ (⟨trivial, six_ V_v26.out, six_ X_v26.out⟩) (fun hHeld => ?_)
    clear hK K
    try simp only [Act.put, List.setIfInBounds_toArray, List.set_cons_zero, List.set_cons_succ]
    refine wpAnyL_ready (rs := [6]) (by kernel_rfl) (by simp) ?_
    refine AllReadyL.cons (o := { dst := none, op := .store 25 (.tmp 7) (.tmp 29), type := 0, pos := "law.go:88", after := #[{ on := 4, ground := .data }, { on := 1, ground := .data }, { on := 3, ground := .chain }, { on := 0, ground := .phase }, { on := 1, ground := .phase }, { on := 2, ground := .textOnly Go.Departure.lateStores }, { on := 3, ground := .textOnly Go.Departure.lateStoresUnsure }, { on := 4, ground := .phase }, { on := 5, ground := .phase }], guard := none }) rfl (fun K hK => ?_) AllReadyL.nil
    have s0 : v26.cell? ⟨v20.heap.size, 0, none⟩ = some (.int .i64 0) := G7_v26.out.cell 0
    have s_0 := G7_v26.out.free 0
    have s1 : v26.cell? ⟨v20.heap.size, 1, none⟩ = some (.int .i64 0) := G7_v26.out.cell 1
    have s_1 := G7_v26.out.free 1
    have s2 : v26.cell? ⟨v20.heap.size, 2, none⟩ = some (.int .i64 0) := G7_v26.out.cell 2
    have s_2 := G7_v26.out.free 2
    have s3 : v26.cell? ⟨v20.heap.size, 3, none⟩ = some (.string ⟨#[]⟩) := G7_v26.out.cell 3
    have s_3 := G7_v26.out.free 3
    have s4 : v26.cell? ⟨v20.heap.size, 4, none⟩ = some (.slice none 0 0) := G7_v26.out.cell 4
    have s_4 := G7_v26.out.free 4
    have s5 : v26.cell? ⟨v20.heap.size, 5, none⟩ = some (.slice none 0 0) := G7_v26.out.cell 5
    have s_5 := G7_v26.out.free 5
    go_simp
    obtain ⟨v27, h_v27⟩ : ∃ v, ((((((v26.setCell ⟨v20.heap.size, 0, none⟩ (.int .i64 n.kind)).setCell ⟨v20.heap.size, 1, none⟩ (.int .i64 n.int)).setCell ⟨v20.heap.size, 2, none⟩ (.int .i64 n.scale)).setCell ⟨v20.heap.size, 3, none⟩ (.string (str n.text))).setCell ⟨v20.heap.size, 4, none⟩ (.slice Cn n.names.length en)).setCell ⟨v20.heap.size, 5, none⟩ (.slice Ck k.len ek)) = v := ⟨_, rfl⟩
    rw [h_v27]
    clear s0 s_0 s1 s_1 s2 s_2 s3 s_3 s4 s_4 s5 s_5
    have B_v27 : Hid (Below w.heap.size w v27) := by show Below _ _ _; rw [← h_v27]; exact below_six B_v26.out (by omega)
    have G7_v27 : Hid (Blk v27 v20.heap.size #[.int .i64 n.kind, .int .i64 n.int, .int .i64 n.scale, .string (str n.text), .slice Cn n.names.length en, .slice Ck k.len ek] 25) := by show Blk _ _ _ _; rw [← h_v27]; exact Blk.put6 G7_v26.out
    have V_v27 := Lib.hid (show Blk v27 _ _ _ from by rw [← h_v27]; exact Blk.six_other V_v26.out (by omega))
    have X_v27 := Lib.hid (show Blk v27 _ _ _ from by rw [← h_v27]; exact Blk.six_other X_v26.out (by omega))
    have G8_v27 := Lib.hid (show Blk v27 _ _ _ from by rw [← h_v27]; exact Blk.six_other G8_v26.out (by omega))
    have C_v27 : Hid (Vo v27 (fun i => i < v27.heap.size ∧ i ≠ v1.heap.size ∧ i ≠ v20.heap.size) n k (agN n Cn en Ck k.len ek)) := by show Vo _ _ _ _ _; rw [← h_v27]; exact vo_six C_v26.out (fun i hi => hi.2.2) (fun i hi => ⟨by simpa using hi.1, hi.2⟩)
    have D_v27 : Hid (Vo v27 (fun i => i < v27.heap.size ∧ i ≠ v1.heap.size ∧ i ≠ v20.heap.size) m q (agN m Dn fn Dk q.len fk)) := by show Vo _ _ _ _ _; rw [← h_v27]; exact vo_six D_v26.out (fun i hi => hi.2.2) (fun i hi => ⟨by simpa using hi.1, hi.2⟩)
    clear h_v27
    refine hK.out _ _ (⟨trivial, six_ V_v27.out, six_ X_v27.out⟩) (fun hHeld => ?_)
    clear hK K
    try simp only [Act.put, List.setIfInBounds_toArray, List.set_cons_zero, List.set_cons_succ]
    refine wpAnyL_ready (rs := [7]) (by kernel_rfl) (by simp) ?_
    refine AllReadyL.late (o := { dst := none, op := .store 25 (.tmp 8) (.tmp 31), type := 0, pos := "law.go:88", after := #[{ on := 5, ground := .data }, { on := 3, ground := .data }, { on := 6, ground := .chain }, { on := 0, ground := .phase }, { on := 1, ground := .phase }, { on := 2, ground := .phase }, { on := 3, ground := .phase }, { on := 4, ground := .phase }, { on := 5, ground := .phase }, { on := 6, ground := .phase }], guard := none }) rfl (by kernel_rfl) (fun K hK => ?_) AllReadyL.nil
    have s0 : v27.cell? ⟨v1.heap.size, 0, none⟩ = some (.int .i64 0) := G8_v27.out.cell 0
    have s_0 := G8_v27.out.free 0
    have s1 : v27.cell? ⟨v1.heap.size, 1, none⟩ = some (.int .i64 0) := G8_v27.out.cell 1
    have s_1 := G8_v27.out.free 1
    have s2 : v27.cell? ⟨v1.heap.size, 2, none⟩ = some (.int .i64 0) := G8_v27.out.cell 2
    have s_2 := G8_v27.out.free 2
    have s3 : v27.cell? ⟨v1.heap.size, 3, none⟩ = some (.string ⟨#[]⟩) := G8_v27.out.cell 3
    have s_3 := G8_v27.out.free 3
    have s4 : v27.cell? ⟨v1.heap.size, 4, none⟩ = some (.slice none 0 0) := G8_v27.out.cell 4
    have s_4 := G8_v27.out.free 4
    have s5 : v27.cell? ⟨v1.heap.size, 5, none⟩ = some (.slice none 0 0) := G8_v27.out.cell 5
    have s_5 := G8_v27.out.free 5
    go_simp
    obtain ⟨v28, h_v28⟩ : ∃ v, ((((((v27.setCell ⟨v1.heap.size, 0, none⟩ (.int .i64 m.kind)).setCell ⟨v1.heap.size, 1, none⟩ (.int .i64 m.int)).setCell ⟨v1.heap.size, 2, none⟩ (.int .i64 m.scale)).setCell ⟨v1.heap.size, 3, none⟩ (.string (str m.text))).setCell ⟨v1.heap.size, 4, none⟩ (.slice Dn m.names.length fn)).setCell ⟨v1.heap.size, 5, none⟩ (.slice Dk q.len fk)) = v := ⟨_, rfl⟩
    rw [h_v28]
    clear s0 s_0 s1 s_1 s2 s_2 s3 s_3 s4 s_4 s5 s_5
    have B_v28 : Hid (Below w.heap.size w v28) := by show Below _ _ _; rw [← h_v28]; exact below_six B_v27.out (by omega)
    have G8_v28 : Hid (Blk v28 v1.heap.size #[.int .i64 m.kind, .int .i64 m.int, .int .i64 m.scale, .string (str m.text), .slice Dn m.names.length fn, .slice Dk q.len fk] 25) := by show Blk _ _ _ _; rw [← h_v28]; exact Blk.put6 G8_v27.out
    have V_v28 := Lib.hid (show Blk v28 _ _ _ from by rw [← h_v28]; exact Blk.six_other V_v27.out (by omega))
    have X_v28 := Lib.hid (show Blk v28 _ _ _ from by rw [← h_v28]; exact Blk.six_other X_v27.out (by omega))
    have G7_v28 := Lib.hid (show Blk v28 _ _ _ from by rw [← h_v28]; exact Blk.six_other G7_v27.out (by omega))
    have C_v28 : Hid (Vo v28 (fun i => i < v28.heap.size ∧ i ≠ v1.heap.size ∧ i ≠ v20.heap.size) n k (agN n Cn en Ck k.len ek)) := by show Vo _ _ _ _ _; rw [← h_v28]; exact vo_six C_v27.out (fun i hi => hi.2.1) (fun i hi => ⟨by simpa using hi.1, hi.2⟩)
    have D_v28 : Hid (Vo v28 (fun i => i < v28.heap.size ∧ i ≠ v1.heap.size ∧ i ≠ v20.heap.size) m q (agN m Dn fn Dk q.len fk)) := by show Vo _ _ _ _ _; rw [← h_v28]; exact vo_six D_v27.out (fun i hi => hi.2.1) (fun i hi => ⟨by simpa using hi.1, hi.2⟩)
    clear h_v28
    have FIN : VF3 w n k An cn Ak ck m q Bn dn Bk dk (.pointer (some ⟨v20.heap.size, 0, none⟩)) (.pointer (some ⟨v1.heap.size, 0, none⟩)) v28 := ⟨v20.heap.size, v1.heap.size, Cn, en, Ck, ek, Dn, fn, Dk, fk, rfl, rfl, st_four B_v28.out ⟨V_v28.out, HV0.out.upto B_v28.out⟩ ⟨X_v28.out, HV1.out.upto B_v28.out⟩ ⟨G7_v28.out, C_v28.out.keep (fun _ _ => rfl) (fun i hi => hi.1)⟩ ⟨G8_v28.out, D_v28.out.keep (fun _ _ => rfl) (fun i hi => hi.1)⟩⟩
    refine hK.out _ _ (⟨six_ V_v28.out, six_ X_v28.out⟩) (fun hHeld => ?_)
    clear hK K
    try simp only [Act.put, List.setIfInBounds_toArray, List.set_cons_zero, List.set_cons_succ]
    refine wpAnyL_done (by kernel_rfl) ?_ _
    rotate_left 1
    refine AllReadyL.cons (o := { dst := some 7, op := .alloc 25, type := 0, pos := "law.go:88", after := #[], guard := none }) rfl (fun K hK => ?_) ?_
    go_simp
    obtain ⟨v29, h_v29⟩ : ∃ v, v0.alloc (.cells #[.int .i64 0, .int .i64 0, .int .i64 0, .string ⟨#[]⟩, .slice none 0 0, .slice none 0 0] 25) = v := ⟨_, rfl⟩
    rw [h_v29]
    have b_v29 : Below v0.heap.size v0 v29 := by rw [← h_v29]; exact (Below.refl _ _).alloc (Nat.le_refl _) _
    have B_v29 : Hid (Below w.heap.size w v29) := B_v0.out.trans (b_v29.mono B_v0.out.size)
    have z_v29 : v0.heap.size ≤ v29.heap.size := b_v29.size
    have V_v29 := Lib.hid (V_v0.out.below b_v29 V_v0.out.lt)
    have X_v29 := Lib.hid (X_v0.out.below b_v29 X_v0.out.lt)
    have G7_v29 : Hid (Blk v29 v0.heap.size #[.int .i64 0, .int .i64 0, .int .i64 0, .string ⟨#[]⟩, .slice none 0 0, .slice none 0 0] 25) := by show Blk _ _ _ _; rw [← h_v29]; exact Blk.new _ _ _
    have hg7 : w.heap.size + 1 < v0.heap.size := X_v0.out.lt
    clear h_v29
    refine hK.out _ _ (⟨trivial, six_ V_v29.out, six_ X_v29.out⟩) (fun hHeld => ?_)
    clear hK K
    try simp only [Act.put, List.setIfInBounds_toArray, List.set_cons_zero, List.set_cons_succ]
    refine wpAnyL_ready (rs := [1, 5]) (by kernel_rfl) (by simp) ?_
    refine AllReadyL.cons (o := { dst := some 29, op := .call { callee := .value (.func 8), args := #[.tmp 28], argTypes := #[25] }, type := 25, pos := "law.go:88", after := #[{ on := 0, ground := .data }], guard := none }) rfl (fun K hK => ?_) ?_
    go_simp
    refine ((unhide HO1) v29 (HV0.out.upto B_v29.out)).mono ?_
    rintro e v30 ⟨vv, rfl, vo_v30, b_v30⟩
    have vo2 := vo_v30.keep (w' := v30) (S' := fun i => i < v30.heap.size ∧ i ≠ v0.heap.size) (fun _ _ => rfl) (fun i hi => ⟨hi.2, by have := hi.1; have := G7_v29.out.lt; omega⟩)
    clear vo_v30
    obtain ⟨Cn, en, Ck, ek, rfl, _, _, _, _, _⟩ := id vo2
    unfold ncells at vo2
    unfold ncells
    have B_v30 : Hid (Below w.heap.size w v30) := B_v29.out.trans (b_v30.mono B_v29.out.size)
    have z_v30 : v29.heap.size ≤ v30.heap.size := b_v30.size
    have V_v30 := Lib.hid (V_v29.out.below b_v30 V_v29.out.lt)
    have X_v30 := Lib.hid (X_v29.out.below b_v30 X_v29.out.lt)
    have G7_v30 := Lib.hid (G7_v29.out.below b_v30 G7_v29.out.lt)
    have C_v30 := Lib.hid vo2
    clear vo2
    go_wp2_with fail
    refine hK.out _ _ (⟨trivial, six_ V_v30.out, six_ X_v30.out⟩) (fun hHeld => ?_)
    clear hK K
    try simp only [Act.put, List.setIfInBounds_toArray, List.set_cons_zero, List.set_cons_succ]
    refine wpAnyL_ready (rs := [3, 5]) (by kernel_rfl) (by simp) ?_
    refine AllReadyL.cons (o := { dst := some 31, op := .call { callee := .value (.func 8), args := #[.tmp 30], argTypes := #[25] }, type := 25, pos := "law.go:88", after := #[{ on := 2, ground := .data }, { on := 1, ground := .chain }], guard := none }) rfl (fun K hK => ?_) ?_
    go_simp
    refine ((unhide HO2) v30 (HV1.out.upto B_v30.out)).mono ?_
    rintro e v31 ⟨vv, rfl, vo_v31, b_v31⟩
    have vo2 := vo_v31.keep (w' := v31) (S' := fun i => i < v31.heap.size ∧ i ≠ v0.heap.size) (fun _ _ => rfl) (fun i hi => ⟨hi.2, by have := hi.1; have := G7_v30.out.lt; omega⟩)
    clear vo_v31
    obtain ⟨Dn, fn, Dk, fk, rfl, _, _, _, _, _⟩ := id vo2
    unfold ncells at vo2
    unfold ncells
    have B_v31 : Hid (Below w.heap.size w v31) := B_v30.out.trans (b_v31.mono B_v30.out.size)
    have z_v31 : v30.heap.size ≤ v31.heap.size := b_v31.size
    have V_v31 := Lib.hid (V_v30.out.below b_v31 V_v30.out.lt)
    have X_v31 := Lib.hid (X_v30.out.below b_v31 X_v30.out.lt)
    have G7_v31 := Lib.hid (G7_v30.out.below b_v31 G7_v30.out.lt)
    have C_v31 := Lib.hid (Vo.keep (w' := v31) (S' := fun i => i < v31.heap.size ∧ i ≠ v0.heap.size) C_v30.out (fun i hi => b_v31.block i hi.1) (fun i hi => ⟨Nat.lt_of_lt_of_le hi.1 b_v31.size, hi.2⟩))
    have D_v31 := Lib.hid vo2
    clear vo2
    go_wp2_with fail
    refine hK.out _ _ (⟨trivial, six_ V_v31.out, six_ X_v31.out⟩) (fun hHeld => ?_)
    clear hK K
    try simp only [Act.put, List.setIfInBounds_toArray, List.set_cons_zero, List.set_cons_succ]
    refine wpAnyL_ready (rs := [5]) (by kernel_rfl) (by simp) ?_
    refine AllReadyL.cons (o := { dst := some 8, op := .alloc 25, type := 0, pos := "law.go:88", after := #[], guard := none }) rfl (fun K hK => ?_) AllReadyL.nil
    go_simp
    obtain ⟨v32, h_v32⟩ : ∃ v, v31.alloc (.cells #[.int .i64 0, .int .i64 0, .int .i64 0, .string ⟨#[]⟩, .slice none 0 0, .slice none 0 0] 25) = v := ⟨_, rfl⟩
    rw [h_v32]
    have b_v32 : Below v31.heap.size v31 v32 := by rw [← h_v32]; exact (Below.refl _ _).alloc (Nat.le_refl _) _
    have B_v32 : Hid (Below w.heap.size w v32) := B_v31.out.trans (b_v32.mono B_v31.out.size)
    have z_v32 : v31.heap.size ≤ v32.heap.size := b_v32.size
    have V_v32 := Lib.hid (V_v31.out.below b_v32 V_v31.out.lt)
    have X_v32 := Lib.hid (X_v31.out.below b_v32 X_v31.out.lt)
    have G7_v32 := Lib.hid (G7_v31.out.below b_v32 G7_v31.out.lt)
    have C_v32 := Lib.hid (Vo.keep (w' := v32) (S' := fun i => i < v32.heap.size ∧ i ≠ v0.heap.size ∧ i ≠ v31.heap.size) C_v31.out (fun i hi => b_v32.block i hi.1) (fun i hi => ⟨Nat.lt_of_lt_of_le hi.1 b_v32.size, hi.2, by have := hi.1; omega⟩))
    have D_v32 := Lib.hid (Vo.keep (w' := v32) (S' := fun i => i < v32.heap.size ∧ i ≠ v0.heap.size ∧ i ≠ v31.heap.size) D_v31.out (fun i hi => b_v32.block i hi.1) (fun i hi => ⟨Nat.lt_of_lt_of_le hi.1 b_v32.size, hi.2, by have := hi.1; omega⟩))
    have G8_v32 : Hid (Blk v32 v31.heap.size #[.int .i64 0, .int .i64 0, .int .i64 0, .string ⟨#[]⟩, .slice none 0 0, .slice none 0 0] 25) := by show Blk _ _ _ _; rw [← h_v32]; exact Blk.new _ _ _
    have hg8 : w.heap.size + 1 < v31.heap.size := X_v31.out.lt
    have hgg : v0.heap.size < v31.heap.size := G7_v31.out.lt
    clear h_v32
    refine hK.out _ _ (⟨trivial, six_ V_v32.out, six_ X_v32.out⟩) (fun hHeld => ?_)
    clear hK K
    try simp only [Act.put, List.setIfInBounds_toArray, List.set_cons_zero, List.set_cons_succ]
    refine wpAnyL_ready (rs := [6]) (by kernel_rfl) (by simp) ?_
    refine AllReadyL.cons (o := { dst := none, op := .store 25 (.tmp 7) (.tmp 29), type := 0, pos := "law.go:88", after := #[{ on := 4, ground := .data }, { on := 1, ground := .data }, { on := 3, ground := .chain }, { on := 0, ground := .phase }, { on := 1, ground := .phase }, { on := 2, ground := .textOnly Go.Departure.lateStores }, { on := 3, ground := .textOnly Go.Departure.lateStoresUnsure }, { on := 4, ground := .phase }, { on := 5, ground := .phase }], guard := none }) rfl (fun K hK => ?_) AllReadyL.nil
    have s0 : v32.cell? ⟨v0.heap.size, 0, none⟩ = some (.int .i64 0) := G7_v32.out.cell 0
    have s_0 := G7_v32.out.free 0
    have s1 : v32.cell? ⟨v0.heap.size, 1, none⟩ = some (.int .i64 0) := G7_v32.out.cell 1
    have s_1 := G7_v32.out.free 1
    have s2 : v32.cell? ⟨v0.heap.size, 2, none⟩ = some (.int .i64 0) := G7_v32.out.cell 2
    have s_2 := G7_v32.out.free 2
    have s3 : v32.cell? ⟨v0.heap.size, 3, none⟩ = some (.string ⟨#[]⟩) := G7_v32.out.cell 3
    have s_3 := G7_v32.out.free 3
    have s4 : v32.cell? ⟨v0.heap.size, 4, none⟩ = some (.slice none 0 0) := G7_v32.out.cell 4
    have s_4 := G7_v32.out.free 4
    have s5 : v32.cell? ⟨v0.heap.size, 5, none⟩ = some (.slice none 0 0) := G7_v32.out.cell 5
    have s_5 := G7_v32.out.free 5
    go_simp
    obtain ⟨v33, h_v33⟩ : ∃ v, ((((((v32.setCell ⟨v0.heap.size, 0, none⟩ (.int .i64 n.kind)).setCell ⟨v0.heap.size, 1, none⟩ (.int .i64 n.int)).setCell ⟨v0.heap.size, 2, none⟩ (.int .i64 n.scale)).setCell ⟨v0.heap.size, 3, none⟩ (.string (str n.text))).setCell ⟨v0.heap.size, 4, none⟩ (.slice Cn n.names.length en)).setCell ⟨v0.heap.size, 5, none⟩ (.slice Ck k.len ek)) = v := ⟨_, rfl⟩
    rw [h_v33]
    clear s0 s_0 s1 s_1 s2 s_2 s3 s_3 s4 s_4 s5 s_5
    have B_v33 : Hid (Below w.heap.size w v33) := by show Below _ _ _; rw [← h_v33]; exact below_six B_v32.out (by omega)
    have G7_v33 : Hid (Blk v33 v0.heap.size #[.int .i64 n.kind, .int .i64 n.int, .int .i64 n.scale, .string (str n.text), .slice Cn n.names.length en, .slice Ck k.len ek] 25) := by show Blk _ _ _ _; rw [← h_v33]; exact Blk.put6 G7_v32.out
    have V_v33 := Lib.hid (show Blk v33 _ _ _ from by rw [← h_v33]; exact Blk.six_other V_v32.out (by omega))
    have X_v33 := Lib.hid (show Blk v33 _ _ _ from by rw [← h_v33]; exact Blk.six_other X_v32.out (by omega))
    have G8_v33 := Lib.hid (show Blk v33 _ _ _ from by rw [← h_v33]; exact Blk.six_other G8_v32.out (by omega))
    have C_v33 : Hid (Vo v33 (fun i => i < v33.heap.size ∧ i ≠ v0.heap.size ∧ i ≠ v31.heap.size) n k (agN n Cn en Ck k.len ek)) := by show Vo _ _ _ _ _; rw [← h_v33]; exact vo_six C_v32.out (fun i hi => hi.2.1) (fun i hi => ⟨by simpa using hi.1, hi.2⟩)
    have D_v33 : Hid (Vo v33 (fun i => i < v33.heap.size ∧ i ≠ v0.heap.size ∧ i ≠ v31.heap.size) m q (agN m Dn fn Dk q.len fk)) := by show Vo _ _ _ _ _; rw [← h_v33]; exact vo_six D_v32.out (fun i hi => hi.2.1) (fun i hi => ⟨by simpa using hi.1, hi.2⟩)
    clear h_v33
    refine hK.out _ _ (⟨trivial, six_ V_v33.out, six_ X_v33.out⟩) (fun hHeld => ?_)
    clear hK K
    try simp only [Act.put, List.setIfInBounds_toArray, List.set_cons_zero, List.set_cons_succ]
    refine wpAnyL_ready (rs := [7]) (by kernel_rfl) (by simp) ?_
    refine AllReadyL.late (o := { dst := none, op := .store 25 (.tmp 8) (.tmp 31), type := 0, pos := "law.go:88", after := #[{ on := 5, ground := .data }, { on := 3, ground := .data }, { on := 6, ground := .chain }, { on := 0, ground := .phase }, { on := 1, ground := .phase }, { on := 2, ground := .phase }, { on := 3, ground := .phase }, { on := 4, ground := .phase }, { on := 5, ground := .phase }, { on := 6, ground := .phase }], guard := none }) rfl (by kernel_rfl) (fun K hK => ?_) AllReadyL.nil
    have s0 : v33.cell? ⟨v31.heap.size, 0, none⟩ = some (.int .i64 0) := G8_v33.out.cell 0
    have s_0 := G8_v33.out.free 0
    have s1 : v33.cell? ⟨v31.heap.size, 1, none⟩ = some (.int .i64 0) := G8_v33.out.cell 1
    have s_1 := G8_v33.out.free 1
    have s2 : v33.cell? ⟨v31.heap.size, 2, none⟩ = some (.int .i64 0) := G8_v33.out.cell 2
    have s_2 := G8_v33.out.free 2
    have s3 : v33.cell? ⟨v31.heap.size, 3, none⟩ = some (.string ⟨#[]⟩) := G8_v33.out.cell 3
    have s_3 := G8_v33.out.free 3
    have s4 : v33.cell? ⟨v31.heap.size, 4, none⟩ = some (.slice none 0 0) := G8_v33.out.cell 4
    have s_4 := G8_v33.out.free 4
    have s5 : v33.cell? ⟨v31.heap.size, 5, none⟩ = some (.slice none 0 0) := G8_v33.out.cell 5
    have s_5 := G8_v33.out.free 5
    go_simp
    obtain ⟨v34, h_v34⟩ : ∃ v, ((((((v33.setCell ⟨v31.heap.size, 0, none⟩ (.int .i64 m.kind)).setCell ⟨v31.heap.size, 1, none⟩ (.int .i64 m.int)).setCell ⟨v31.heap.size, 2, none⟩ (.int .i64 m.scale)).setCell ⟨v31.heap.size, 3, none⟩ (.string (str m.text))).setCell ⟨v31.heap.size, 4, none⟩ (.slice Dn m.names.length fn)).setCell ⟨v31.heap.size, 5, none⟩ (.slice Dk q.len fk)) = v := ⟨_, rfl⟩
    rw [h_v34]
    clear s0 s_0 s1 s_1 s2 s_2 s3 s_3 s4 s_4 s5 s_5
    have B_v34 : Hid (Below w.heap.size w v34) := by show Below _ _ _; rw [← h_v34]; exact below_six B_v33.out (by omega)
    have G8_v34 : Hid (Blk v34 v31.heap.size #[.int .i64 m.kind, .int .i64 m.int, .int .i64 m.scale, .string (str m.text), .slice Dn m.names.length fn, .slice Dk q.len fk] 25) := by show Blk _ _ _ _; rw [← h_v34]; exact Blk.put6 G8_v33.out
    have V_v34 := Lib.hid (show Blk v34 _ _ _ from by rw [← h_v34]; exact Blk.six_other V_v33.out (by omega))
    have X_v34 := Lib.hid (show Blk v34 _ _ _ from by rw [← h_v34]; exact Blk.six_other X_v33.out (by omega))
    have G7_v34 := Lib.hid (show Blk v34 _ _ _ from by rw [← h_v34]; exact Blk.six_other G7_v33.out (by omega))
    have C_v34 : Hid (Vo v34 (fun i => i < v34.heap.size ∧ i ≠ v0.heap.size ∧ i ≠ v31.heap.size) n k (agN n Cn en Ck k.len ek)) := by show Vo _ _ _ _ _; rw [← h_v34]; exact vo_six C_v33.out (fun i hi => hi.2.2) (fun i hi => ⟨by simpa using hi.1, hi.2⟩)
    have D_v34 : Hid (Vo v34 (fun i => i < v34.heap.size ∧ i ≠ v0.heap.size ∧ i ≠ v31.heap.size) m q (agN m Dn fn Dk q.len fk)) := by show Vo _ _ _ _ _; rw [← h_v34]; exact vo_six D_v33.out (fun i hi => hi.2.2) (fun i hi => ⟨by simpa using hi.1, hi.2⟩)
    clear h_v34
    have FIN : VF3 w n k An cn Ak ck m q Bn dn Bk dk (.pointer (some ⟨v0.heap.size, 0, none⟩)) (.pointer (some ⟨v31.heap.size, 0, none⟩)) v34 := ⟨v0.heap.size, v31.heap.size, Cn, en, Ck, ek, Dn, fn, Dk, fk, rfl, rfl, st_four B_v34.out ⟨V_v34.out, HV0.out.upto B_v34.out⟩ ⟨X_v34.out, HV1.out.upto B_v34.out⟩ ⟨G7_v34.out, C_v34.out.keep (fun _ _ => rfl) (fun i hi => hi.1)⟩ ⟨G8_v34.out, D_v34.out.keep (fun _ _ => rfl) (fun i hi => hi.1)⟩⟩
    refine hK.out _ _ (⟨six_ V_v34.out, six_ X_v34.out⟩) (fun hHeld => ?_)
    clear hK K
    try simp only [Act.put, List.setIfInBounds_toArray, List.set_cons_zero, List.set_cons_succ]
    refine wpAnyL_done (by kernel_rfl) ?_ _
    rotate_left 1
    refine AllReadyL.cons (o := { dst := some 8, op := .alloc 25, type := 0, pos := "law.go:88", after := #[], guard := none }) rfl (fun K hK => ?_) AllReadyL.nil
    go_simp
    obtain ⟨v35, h_v35⟩ : ∃ v, v30.alloc (.cells #[.int .i64 0, .int .i64 0, .int .i64 0, .string ⟨#[]⟩, .slice none 0 0, .slice none 0 0] 25) = v := ⟨_, rfl⟩
    rw [h_v35]
    have b_v35 : Below v30.heap.size v30 v35 := by rw [← h_v35]; exact (Below.refl _ _).alloc (Nat.le_refl _) _
    have B_v35 : Hid (Below w.heap.size w v35) := B_v30.out.trans (b_v35.mono B_v30.out.size)
    have z_v35 : v30.heap.size ≤ v35.heap.size := b_v35.size
    have V_v35 := Lib.hid (V_v30.out.below b_v35 V_v30.out.lt)
    have X_v35 := Lib.hid (X_v30.out.below b_v35 X_v30.out.lt)
    have G7_v35 := Lib.hid (G7_v30.out.below b_v35 G7_v30.out.lt)
    have C_v35 := Lib.hid (Vo.keep (w' := v35) (S' := fun i => i < v35.heap.size ∧ i ≠ v0.heap.size ∧ i ≠ v30.heap.size) C_v30.out (fun i hi => b_v35.block i hi.1) (fun i hi => ⟨Nat.lt_of_lt_of_le hi.1 b_v35.size, hi.2, by have := hi.1; omega⟩))
    have G8_v35 : Hid (Blk v35 v30.heap.size #[.int .i64 0, .int .i64 0, .int .i64 0, .string ⟨#[]⟩, .slice none 0 0, .slice none 0 0] 25) := by show Blk _ _ _ _; rw [← h_v35]; exact Blk.new _ _ _
    have hg8 : w.heap.size + 1 < v30.heap.size := X_v30.out.lt
    have hgg : v0.heap.size < v30.heap.size := G7_v30.out.lt
    clear h_v35
    refine hK.out _ _ (⟨trivial, six_ V_v35.out, six_ X_v35.out⟩) (fun hHeld => ?_)
    clear hK K
    try simp only [Act.put, List.setIfInBounds_toArray, List.set_cons_zero, List.set_cons_succ]
    refine wpAnyL_ready (rs := [3]) (by kernel_rfl) (by simp) ?_
    refine AllReadyL.cons (o := { dst := some 31, op := .call { callee := .value (.func 8), args := #[.tmp 30], argTypes := #[25] }, type := 25, pos := "law.go:88", after := #[{ on := 2, ground := .data }, { on := 1, ground := .chain }], guard := none }) rfl (fun K hK => ?_) AllReadyL.nil
    go_simp
    refine ((unhide HO2) v35 (HV1.out.upto B_v35.out)).mono ?_
    rintro e v36 ⟨vv, rfl, vo_v36, b_v36⟩
    have vo2 := vo_v36.keep (w' := v36) (S' := fun i => i < v36.heap.size ∧ i ≠ v0.heap.size ∧ i ≠ v30.heap.size) (fun _ _ => rfl) (fun i hi => ⟨hi.2, by have := hi.1; have := G7_v35.out.lt; omega, by have := hi.1; have := G8_v35.out.lt; omega⟩)
    clear vo_v36
    obtain ⟨Dn, fn, Dk, fk, rfl, _, _, _, _, _⟩ := id vo2
    unfold ncells at vo2
    unfold ncells
    have B_v36 : Hid (Below w.heap.size w v36) := B_v35.out.trans (b_v36.mono B_v35.out.size)
    have z_v36 : v35.heap.size ≤ v36.heap.size := b_v36.size
    have V_v36 := Lib.hid (V_v35.out.below b_v36 V_v35.out.lt)
    have X_v36 := Lib.hid (X_v35.out.below b_v36 X_v35.out.lt)
    have G7_v36 := Lib.hid (G7_v35.out.below b_v36 G7_v35.out.lt)
    have G8_v36 := Lib.hid (G8_v35.out.below b_v36 G8_v35.out.lt)
    have C_v36 := Lib.hid (Vo.keep (w' := v36) (S' := fun i => i < v36.heap.size ∧ i ≠ v0.heap.size ∧ i ≠ v30.heap.size) C_v35.out (fun i hi => b_v36.block i hi.1) (fun i hi => ⟨Nat.lt_of_lt_of_le hi.1 b_v36.size, hi.2⟩))
    have D_v36 := Lib.hid vo2
    clear vo2
    go_wp2_with fail
    refine hK.out _ _ (⟨trivial, six_ V_v36.out, six_ X_v36.out⟩) (fun hHeld => ?_)
    clear hK K
    try simp only [Act.put, List.setIfInBounds_toArray, List.set_cons_zero, List.set_cons_succ]
    refine wpAnyL_ready (rs := [6]) (by kernel_rfl) (by simp) ?_
    refine AllReadyL.cons (o := { dst := none, op := .store 25 (.tmp 7) (.tmp 29), type := 0, pos := "law.go:88", after := #[{ on := 4, ground := .data }, { on := 1, ground := .data }, { on := 3, ground := .chain }, { on := 0, ground := .phase }, { on := 1, ground := .phase }, { on := 2, ground := .textOnly Go.Departure.lateStores }, { on := 3, ground := .textOnly Go.Departure.lateStoresUnsure }, { on := 4, ground := .phase }, { on := 5, ground := .phase }], guard := none }) rfl (fun K hK => ?_) AllReadyL.nil
    have s0 : v36.cell? ⟨v0.heap.size, 0, none⟩ = some (.int .i64 0) := G7_v36.out.cell 0
    have s_0 := G7_v36.out.free 0
    have s1 : v36.cell? ⟨v0.heap.size, 1, none⟩ = some (.int .i64 0) := G7_v36.out.cell 1
    have s_1 := G7_v36.out.free 1
    have s2 : v36.cell? ⟨v0.heap.size, 2, none⟩ = some (.int .i64 0) := G7_v36.out.cell 2
    have s_2 := G7_v36.out.free 2
    have s3 : v36.cell? ⟨v0.heap.size, 3, none⟩ = some (.string ⟨#[]⟩) := G7_v36.out.cell 3
    have s_3 := G7_v36.out.free 3
    have s4 : v36.cell? ⟨v0.heap.size, 4, none⟩ = some (.slice none 0 0) := G7_v36.out.cell 4
    have s_4 := G7_v36.out.free 4
    have s5 : v36.cell? ⟨v0.heap.size, 5, none⟩ = some (.slice none 0 0) := G7_v36.out.cell 5
    have s_5 := G7_v36.out.free 5
    go_simp
    obtain ⟨v37, h_v37⟩ : ∃ v, ((((((v36.setCell ⟨v0.heap.size, 0, none⟩ (.int .i64 n.kind)).setCell ⟨v0.heap.size, 1, none⟩ (.int .i64 n.int)).setCell ⟨v0.heap.size, 2, none⟩ (.int .i64 n.scale)).setCell ⟨v0.heap.size, 3, none⟩ (.string (str n.text))).setCell ⟨v0.heap.size, 4, none⟩ (.slice Cn n.names.length en)).setCell ⟨v0.heap.size, 5, none⟩ (.slice Ck k.len ek)) = v := ⟨_, rfl⟩
    rw [h_v37]
    clear s0 s_0 s1 s_1 s2 s_2 s3 s_3 s4 s_4 s5 s_5
    have B_v37 : Hid (Below w.heap.size w v37) := by show Below _ _ _; rw [← h_v37]; exact below_six B_v36.out (by omega)
    have G7_v37 : Hid (Blk v37 v0.heap.size #[.int .i64 n.kind, .int .i64 n.int, .int .i64 n.scale, .string (str n.text), .slice Cn n.names.length en, .slice Ck k.len ek] 25) := by show Blk _ _ _ _; rw [← h_v37]; exact Blk.put6 G7_v36.out
    have V_v37 := Lib.hid (show Blk v37 _ _ _ from by rw [← h_v37]; exact Blk.six_other V_v36.out (by omega))
    have X_v37 := Lib.hid (show Blk v37 _ _ _ from by rw [← h_v37]; exact Blk.six_other X_v36.out (by omega))
    have G8_v37 := Lib.hid (show Blk v37 _ _ _ from by rw [← h_v37]; exact Blk.six_other G8_v36.out (by omega))
    have C_v37 : Hid (Vo v37 (fun i => i < v37.heap.size ∧ i ≠ v0.heap.size ∧ i ≠ v30.heap.size) n k (agN n Cn en Ck k.len ek)) := by show Vo _ _ _ _ _; rw [← h_v37]; exact vo_six C_v36.out (fun i hi => hi.2.1) (fun i hi => ⟨by simpa using hi.1, hi.2⟩)
    have D_v37 : Hid (Vo v37 (fun i => i < v37.heap.size ∧ i ≠ v0.heap.size ∧ i ≠ v30.heap.size) m q (agN m Dn fn Dk q.len fk)) := by show Vo _ _ _ _ _; rw [← h_v37]; exact vo_six D_v36.out (fun i hi => hi.2.1) (fun i hi => ⟨by simpa using hi.1, hi.2⟩)
    clear h_v37
    refine hK.out _ _ (⟨trivial, six_ V_v37.out, six_ X_v37.out⟩) (fun hHeld => ?_)
    clear hK K
    try simp only [Act.put, List.setIfInBounds_toArray, List.set_cons_zero, List.set_cons_succ]
    refine wpAnyL_ready (rs := [7]) (by kernel_rfl) (by simp) ?_
    refine AllReadyL.late (o := { dst := none, op := .store 25 (.tmp 8) (.tmp 31), type := 0, pos := "law.go:88", after := #[{ on := 5, ground := .data }, { on := 3, ground := .data }, { on := 6, ground := .chain }, { on := 0, ground := .phase }, { on := 1, ground := .phase }, { on := 2, ground := .phase }, { on := 3, ground := .phase }, { on := 4, ground := .phase }, { on := 5, ground := .phase }, { on := 6, ground := .phase }], guard := none }) rfl (by kernel_rfl) (fun K hK => ?_) AllReadyL.nil
    have s0 : v37.cell? ⟨v30.heap.size, 0, none⟩ = some (.int .i64 0) := G8_v37.out.cell 0
    have s_0 := G8_v37.out.free 0
    have s1 : v37.cell? ⟨v30.heap.size, 1, none⟩ = some (.int .i64 0) := G8_v37.out.cell 1
    have s_1 := G8_v37.out.free 1
    have s2 : v37.cell? ⟨v30.heap.size, 2, none⟩ = some (.int .i64 0) := G8_v37.out.cell 2
    have s_2 := G8_v37.out.free 2
    have s3 : v37.cell? ⟨v30.heap.size, 3, none⟩ = some (.string ⟨#[]⟩) := G8_v37.out.cell 3
    have s_3 := G8_v37.out.free 3
    have s4 : v37.cell? ⟨v30.heap.size, 4, none⟩ = some (.slice none 0 0) := G8_v37.out.cell 4
    have s_4 := G8_v37.out.free 4
    have s5 : v37.cell? ⟨v30.heap.size, 5, none⟩ = some (.slice none 0 0) := G8_v37.out.cell 5
    have s_5 := G8_v37.out.free 5
    go_simp
    obtain ⟨v38, h_v38⟩ : ∃ v, ((((((v37.setCell ⟨v30.heap.size, 0, none⟩ (.int .i64 m.kind)).setCell ⟨v30.heap.size, 1, none⟩ (.int .i64 m.int)).setCell ⟨v30.heap.size, 2, none⟩ (.int .i64 m.scale)).setCell ⟨v30.heap.size, 3, none⟩ (.string (str m.text))).setCell ⟨v30.heap.size, 4, none⟩ (.slice Dn m.names.length fn)).setCell ⟨v30.heap.size, 5, none⟩ (.slice Dk q.len fk)) = v := ⟨_, rfl⟩
    rw [h_v38]
    clear s0 s_0 s1 s_1 s2 s_2 s3 s_3 s4 s_4 s5 s_5
    have B_v38 : Hid (Below w.heap.size w v38) := by show Below _ _ _; rw [← h_v38]; exact below_six B_v37.out (by omega)
    have G8_v38 : Hid (Blk v38 v30.heap.size #[.int .i64 m.kind, .int .i64 m.int, .int .i64 m.scale, .string (str m.text), .slice Dn m.names.length fn, .slice Dk q.len fk] 25) := by show Blk _ _ _ _; rw [← h_v38]; exact Blk.put6 G8_v37.out
    have V_v38 := Lib.hid (show Blk v38 _ _ _ from by rw [← h_v38]; exact Blk.six_other V_v37.out (by omega))
    have X_v38 := Lib.hid (show Blk v38 _ _ _ from by rw [← h_v38]; exact Blk.six_other X_v37.out (by omega))
    have G7_v38 := Lib.hid (show Blk v38 _ _ _ from by rw [← h_v38]; exact Blk.six_other G7_v37.out (by omega))
    have C_v38 : Hid (Vo v38 (fun i => i < v38.heap.size ∧ i ≠ v0.heap.size ∧ i ≠ v30.heap.size) n k (agN n Cn en Ck k.len ek)) := by show Vo _ _ _ _ _; rw [← h_v38]; exact vo_six C_v37.out (fun i hi => hi.2.2) (fun i hi => ⟨by simpa using hi.1, hi.2⟩)
    have D_v38 : Hid (Vo v38 (fun i => i < v38.heap.size ∧ i ≠ v0.heap.size ∧ i ≠ v30.heap.size) m q (agN m Dn fn Dk q.len fk)) := by show Vo _ _ _ _ _; rw [← h_v38]; exact vo_six D_v37.out (fun i hi => hi.2.2) (fun i hi => ⟨by simpa using hi.1, hi.2⟩)
    clear h_v38
    have FIN : VF3 w n k An cn Ak ck m q Bn dn Bk dk (.pointer (some ⟨v0.heap.size, 0, none⟩)) (.pointer (some ⟨v30.heap.size, 0, none⟩)) v38 := ⟨v0.heap.size, v30.heap.size, Cn, en, Ck, ek, Dn, fn, Dk, fk, rfl, rfl, st_four B_v38.out ⟨V_v38.out, HV0.out.upto B_v38.out⟩ ⟨X_v38.out, HV1.out.upto B_v38.out⟩ ⟨G7_v38.out, C_v38.out.keep (fun _ _ => rfl) (fun i hi => hi.1)⟩ ⟨G8_v38.out, D_v38.out.keep (fun _ _ => rfl) (fun i hi => hi.1)⟩⟩
    refine hK.out _ _ (⟨six_ V_v38.out, six_ X_v38.out⟩) (fun hHeld => ?_)
    clear hK K
    try simp only [Act.put, List.setIfInBounds_toArray, List.set_cons_zero, List.set_cons_succ]
    refine wpAnyL_done (by kernel_rfl) ?_ _
    rotate_left 1
    refine AllReadyL.cons (o := { dst := some 8, op := .alloc 25, type := 0, pos := "law.go:88", after := #[], guard := none }) rfl (fun K hK => ?_) AllReadyL.nil
    go_simp
    obtain ⟨v39, h_v39⟩ : ∃ v, v29.alloc (.cells #[.int .i64 0, .int .i64 0, .int .i64 0, .string ⟨#[]⟩, .slice none 0 0, .slice none 0 0] 25) = v := ⟨_, rfl⟩
    rw [h_v39]
    have b_v39 : Below v29.heap.size v29 v39 := by rw [← h_v39]; exact (Below.refl _ _).alloc (Nat.le_refl _) _
    have B_v39 : Hid (Below w.heap.size w v39) := B_v29.out.trans (b_v39.mono B_v29.out.size)
    have z_v39 : v29.heap.size ≤ v39.heap.size := b_v39.size
    have V_v39 := Lib.hid (V_v29.out.below b_v39 V_v29.out.lt)
    have X_v39 := Lib.hid (X_v29.out.below b_v39 X_v29.out.lt)
    have G7_v39 := Lib.hid (G7_v29.out.below b_v39 G7_v29.out.lt)
    have G8_v39 : Hid (Blk v39 v29.heap.size #[.int .i64 0, .int .i64 0, .int .i64 0, .string ⟨#[]⟩, .slice none 0 0, .slice none 0 0] 25) := by show Blk _ _ _ _; rw [← h_v39]; exact Blk.new _ _ _
    have hg8 : w.heap.size + 1 < v29.heap.size := X_v29.out.lt
    have hgg : v0.heap.size < v29.heap.size := G7_v29.out.lt
    clear h_v39
    refine hK.out _ _ (⟨trivial, six_ V_v39.out, six_ X_v39.out⟩) (fun hHeld => ?_)
    clear hK K
    try simp only [Act.put, List.setIfInBounds_toArray, List.set_cons_zero, List.set_cons_succ]
    refine wpAnyL_ready (rs := [1]) (by kernel_rfl) (by simp) ?_
    refine AllReadyL.cons (o := { dst := some 29, op := .call { callee := .value (.func 8), args := #[.tmp 28], argTypes := #[25] }, type := 25, pos := "law.go:88", after := #[{ on := 0, ground := .data }], guard := none }) rfl (fun K hK => ?_) AllReadyL.nil
    go_simp
    refine ((unhide HO1) v39 (HV0.out.upto B_v39.out)).mono ?_
    rintro e v40 ⟨vv, rfl, vo_v40, b_v40⟩
    have vo2 := vo_v40.keep (w' := v40) (S' := fun i => i < v40.heap.size ∧ i ≠ v0.heap.size ∧ i ≠ v29.heap.size) (fun _ _ => rfl) (fun i hi => ⟨hi.2, by have := hi.1; have := G7_v39.out.lt; omega, by have := hi.1; have := G8_v39.out.lt; omega⟩)
    clear vo_v40
    obtain ⟨Cn, en, Ck, ek, rfl, _, _, _, _, _⟩ := id vo2
    unfold ncells at vo2
    unfold ncells
    have B_v40 : Hid (Below w.heap.size w v40) := B_v39.out.trans (b_v40.mono B_v39.out.size)
    have z_v40 : v39.heap.size ≤ v40.heap.size := b_v40.size
    have V_v40 := Lib.hid (V_v39.out.below b_v40 V_v39.out.lt)
    have X_v40 := Lib.hid (X_v39.out.below b_v40 X_v39.out.lt)
    have G7_v40 := Lib.hid (G7_v39.out.below b_v40 G7_v39.out.lt)
    have G8_v40 := Lib.hid (G8_v39.out.below b_v40 G8_v39.out.lt)
    have C_v40 := Lib.hid vo2
    clear vo2
    go_wp2_with fail
    refine hK.out _ _ (⟨trivial, six_ V_v40.out, six_ X_v40.out⟩) (fun hHeld => ?_)
    clear hK K
    try simp only [Act.put, List.setIfInBounds_toArray, List.set_cons_zero, List.set_cons_succ]
    refine wpAnyL_ready (rs := [3]) (by kernel_rfl) (by simp) ?_
    refine AllReadyL.cons (o := { dst := some 31, op := .call { callee := .value (.func 8), args := #[.tmp 30], argTypes := #[25] }, type := 25, pos := "law.go:88", after := #[{ on := 2, ground := .data }, { on := 1, ground := .chain }], guard := none }) rfl (fun K hK => ?_) AllReadyL.nil
    go_simp
    refine ((unhide HO2) v40 (HV1.out.upto B_v40.out)).mono ?_
    rintro e v41 ⟨vv, rfl, vo_v41, b_v41⟩
    have vo2 := vo_v41.keep (w' := v41) (S' := fun i => i < v41.heap.size ∧ i ≠ v0.heap.size ∧ i ≠ v29.heap.size) (fun _ _ => rfl) (fun i hi => ⟨hi.2, by have := hi.1; have := G7_v40.out.lt; omega, by have := hi.1; have := G8_v40.out.lt; omega⟩)
    clear vo_v41
    obtain ⟨Dn, fn, Dk, fk, rfl, _, _, _, _, _⟩ := id vo2
    unfold ncells at vo2
    unfold ncells
    have B_v41 : Hid (Below w.heap.size w v41) := B_v40.out.trans (b_v41.mono B_v40.out.size)
    have z_v41 : v40.heap.size ≤ v41.heap.size := b_v41.size
    have V_v41 := Lib.hid (V_v40.out.below b_v41 V_v40.out.lt)
    have X_v41 := Lib.hid (X_v40.out.below b_v41 X_v40.out.lt)
    have G7_v41 := Lib.hid (G7_v40.out.below b_v41 G7_v40.out.lt)
    have G8_v41 := Lib.hid (G8_v40.out.below b_v41 G8_v40.out.lt)
    have C_v41 := Lib.hid (Vo.keep (w' := v41) (S' := fun i => i < v41.heap.size ∧ i ≠ v0.heap.size ∧ i ≠ v29.heap.size) C_v40.out (fun i hi => b_v41.block i hi.1) (fun i hi => ⟨Nat.lt_of_lt_of_le hi.1 b_v41.size, hi.2⟩))
    have D_v41 := Lib.hid vo2
    clear vo2
    go_wp2_with fail
    refine hK.out _ _ (⟨trivial, six_ V_v41.out, six_ X_v41.out⟩) (fun hHeld => ?_)
    clear hK K
    try simp only [Act.put, List.setIfInBounds_toArray, List.set_cons_zero, List.set_cons_succ]
    refine wpAnyL_ready (rs := [6]) (by kernel_rfl) (by simp) ?_
    refine AllReadyL.cons (o := { dst := none, op := .store 25 (.tmp 7) (.tmp 29), type := 0, pos := "law.go:88", after := #[{ on := 4, ground := .data }, { on := 1, ground := .data }, { on := 3, ground := .chain }, { on := 0, ground := .phase }, { on := 1, ground := .phase }, { on := 2, ground := .textOnly Go.Departure.lateStores }, { on := 3, ground := .textOnly Go.Departure.lateStoresUnsure }, { on := 4, ground := .phase }, { on := 5, ground := .phase }], guard := none }) rfl (fun K hK => ?_) AllReadyL.nil
    have s0 : v41.cell? ⟨v0.heap.size, 0, none⟩ = some (.int .i64 0) := G7_v41.out.cell 0
    have s_0 := G7_v41.out.free 0
    have s1 : v41.cell? ⟨v0.heap.size, 1, none⟩ = some (.int .i64 0) := G7_v41.out.cell 1
    have s_1 := G7_v41.out.free 1
    have s2 : v41.cell? ⟨v0.heap.size, 2, none⟩ = some (.int .i64 0) := G7_v41.out.cell 2
    have s_2 := G7_v41.out.free 2
    have s3 : v41.cell? ⟨v0.heap.size, 3, none⟩ = some (.string ⟨#[]⟩) := G7_v41.out.cell 3
    have s_3 := G7_v41.out.free 3
    have s4 : v41.cell? ⟨v0.heap.size, 4, none⟩ = some (.slice none 0 0) := G7_v41.out.cell 4
    have s_4 := G7_v41.out.free 4
    have s5 : v41.cell? ⟨v0.heap.size, 5, none⟩ = some (.slice none 0 0) := G7_v41.out.cell 5
    have s_5 := G7_v41.out.free 5
    go_simp
    obtain ⟨v42, h_v42⟩ : ∃ v, ((((((v41.setCell ⟨v0.heap.size, 0, none⟩ (.int .i64 n.kind)).setCell ⟨v0.heap.size, 1, none⟩ (.int .i64 n.int)).setCell ⟨v0.heap.size, 2, none⟩ (.int .i64 n.scale)).setCell ⟨v0.heap.size, 3, none⟩ (.string (str n.text))).setCell ⟨v0.heap.size, 4, none⟩ (.slice Cn n.names.length en)).setCell ⟨v0.heap.size, 5, none⟩ (.slice Ck k.len ek)) = v := ⟨_, rfl⟩
    rw [h_v42]
    clear s0 s_0 s1 s_1 s2 s_2 s3 s_3 s4 s_4 s5 s_5
    have B_v42 : Hid (Below w.heap.size w v42) := by show Below _ _ _; rw [← h_v42]; exact below_six B_v41.out (by omega)
    have G7_v42 : Hid (Blk v42 v0.heap.size #[.int .i64 n.kind, .int .i64 n.int, .int .i64 n.scale, .string (str n.text), .slice Cn n.names.length en, .slice Ck k.len ek] 25) := by show Blk _ _ _ _; rw [← h_v42]; exact Blk.put6 G7_v41.out
    have V_v42 := Lib.hid (show Blk v42 _ _ _ from by rw [← h_v42]; exact Blk.six_other V_v41.out (by omega))
    have X_v42 := Lib.hid (show Blk v42 _ _ _ from by rw [← h_v42]; exact Blk.six_other X_v41.out (by omega))
    have G8_v42 := Lib.hid (show Blk v42 _ _ _ from by rw [← h_v42]; exact Blk.six_other G8_v41.out (by omega))
    have C_v42 : Hid (Vo v42 (fun i => i < v42.heap.size ∧ i ≠ v0.heap.size ∧ i ≠ v29.heap.size) n k (agN n Cn en Ck k.len ek)) := by show Vo _ _ _ _ _; rw [← h_v42]; exact vo_six C_v41.out (fun i hi => hi.2.1) (fun i hi => ⟨by simpa using hi.1, hi.2⟩)
    have D_v42 : Hid (Vo v42 (fun i => i < v42.heap.size ∧ i ≠ v0.heap.size ∧ i ≠ v29.heap.size) m q (agN m Dn fn Dk q.len fk)) := by show Vo _ _ _ _ _; rw [← h_v42]; exact vo_six D_v41.out (fun i hi => hi.2.1) (fun i hi => ⟨by simpa using hi.1, hi.2⟩)
    clear h_v42
    refine hK.out _ _ (⟨trivial, six_ V_v42.out, six_ X_v42.out⟩) (fun hHeld => ?_)
    clear hK K
    try simp only [Act.put, List.setIfInBounds_toArray, List.set_cons_zero, List.set_cons_succ]
    refine wpAnyL_ready (rs := [7]) (by kernel_rfl) (by simp) ?_
    refine AllReadyL.late (o := { dst := none, op := .store 25 (.tmp 8) (.tmp 31), type := 0, pos := "law.go:88", after := #[{ on := 5, ground := .data }, { on := 3, ground := .data }, { on := 6, ground := .chain }, { on := 0, ground := .phase }, { on := 1, ground := .phase }, { on := 2, ground := .phase }, { on := 3, ground := .phase }, { on := 4, ground := .phase }, { on := 5, ground := .phase }, { on := 6, ground := .phase }], guard := none }) rfl (by kernel_rfl) (fun K hK => ?_) AllReadyL.nil
    have s0 : v42.cell? ⟨v29.heap.size, 0, none⟩ = some (.int .i64 0) := G8_v42.out.cell 0
    have s_0 := G8_v42.out.free 0
    have s1 : v42.cell? ⟨v29.heap.size, 1, none⟩ = some (.int .i64 0) := G8_v42.out.cell 1
    have s_1 := G8_v42.out.free 1
    have s2 : v42.cell? ⟨v29.heap.size, 2, none⟩ = some (.int .i64 0) := G8_v42.out.cell 2
    have s_2 := G8_v42.out.free 2
    have s3 : v42.cell? ⟨v29.heap.size, 3, none⟩ = some (.string ⟨#[]⟩) := G8_v42.out.cell 3
    have s_3 := G8_v42.out.free 3
    have s4 : v42.cell? ⟨v29.heap.size, 4, none⟩ = some (.slice none 0 0) := G8_v42.out.cell 4
    have s_4 := G8_v42.out.free 4
    have s5 : v42.cell? ⟨v29.heap.size, 5, none⟩ = some (.slice none 0 0) := G8_v42.out.cell 5
    have s_5 := G8_v42.out.free 5
    go_simp
    obtain ⟨v43, h_v43⟩ : ∃ v, ((((((v42.setCell ⟨v29.heap.size, 0, none⟩ (.int .i64 m.kind)).setCell ⟨v29.heap.size, 1, none⟩ (.int .i64 m.int)).setCell ⟨v29.heap.size, 2, none⟩ (.int .i64 m.scale)).setCell ⟨v29.heap.size, 3, none⟩ (.string (str m.text))).setCell ⟨v29.heap.size, 4, none⟩ (.slice Dn m.names.length fn)).setCell ⟨v29.heap.size, 5, none⟩ (.slice Dk q.len fk)) = v := ⟨_, rfl⟩
    rw [h_v43]
    clear s0 s_0 s1 s_1 s2 s_2 s3 s_3 s4 s_4 s5 s_5
    have B_v43 : Hid (Below w.heap.size w v43) := by show Below _ _ _; rw [← h_v43]; exact below_six B_v42.out (by omega)
    have G8_v43 : Hid (Blk v43 v29.heap.size #[.int .i64 m.kind, .int .i64 m.int, .int .i64 m.scale, .string (str m.text), .slice Dn m.names.length fn, .slice Dk q.len fk] 25) := by show Blk _ _ _ _; rw [← h_v43]; exact Blk.put6 G8_v42.out
    have V_v43 := Lib.hid (show Blk v43 _ _ _ from by rw [← h_v43]; exact Blk.six_other V_v42.out (by omega))
    have X_v43 := Lib.hid (show Blk v43 _ _ _ from by rw [← h_v43]; exact Blk.six_other X_v42.out (by omega))
    have G7_v43 := Lib.hid (show Blk v43 _ _ _ from by rw [← h_v43]; exact Blk.six_other G7_v42.out (by omega))
    have C_v43 : Hid (Vo v43 (fun i => i < v43.heap.size ∧ i ≠ v0.heap.size ∧ i ≠ v29.heap.size) n k (agN n Cn en Ck k.len ek)) := by show Vo _ _ _ _ _; rw [← h_v43]; exact vo_six C_v42.out (fun i hi => hi.2.2) (fun i hi => ⟨by simpa using hi.1, hi.2⟩)
    have D_v43 : Hid (Vo v43 (fun i => i < v43.heap.size ∧ i ≠ v0.heap.size ∧ i ≠ v29.heap.size) m q (agN m Dn fn Dk q.len fk)) := by show Vo _ _ _ _ _; rw [← h_v43]; exact vo_six D_v42.out (fun i hi => hi.2.2) (fun i hi => ⟨by simpa using hi.1, hi.2⟩)
    clear h_v43
    have FIN : VF3 w n k An cn Ak ck m q Bn dn Bk dk (.pointer (some ⟨v0.heap.size, 0, none⟩)) (.pointer (some ⟨v29.heap.size, 0, none⟩)) v43 := ⟨v0.heap.size, v29.heap.size, Cn, en, Ck, ek, Dn, fn, Dk, fk, rfl, rfl, st_four B_v43.out ⟨V_v43.out, HV0.out.upto B_v43.out⟩ ⟨X_v43.out, HV1.out.upto B_v43.out⟩ ⟨G7_v43.out, C_v43.out.keep (fun _ _ => rfl) (fun i hi => hi.1)⟩ ⟨G8_v43.out, D_v43.out.keep (fun _ _ => rfl) (fun i hi => hi.1)⟩⟩
    refine hK.out _ _ (⟨six_ V_v43.out, six_ X_v43.out⟩) (fun hHeld => ?_)
    clear hK K
    try simp only [Act.put, List.setIfInBounds_toArray, List.set_cons_zero, List.set_cons_succ]
    refine wpAnyL_done (by kernel_rfl) ?_ _
    rotate_left 1
    refine AllReadyL.cons (o := { dst := some 8, op := .alloc 25, type := 0, pos := "law.go:88", after := #[], guard := none }) rfl (fun K hK => ?_) AllReadyL.nil
    go_simp
    obtain ⟨v44, h_v44⟩ : ∃ v, v0.alloc (.cells #[.int .i64 0, .int .i64 0, .int .i64 0, .string ⟨#[]⟩, .slice none 0 0, .slice none 0 0] 25) = v := ⟨_, rfl⟩
    rw [h_v44]
    have b_v44 : Below v0.heap.size v0 v44 := by rw [← h_v44]; exact (Below.refl _ _).alloc (Nat.le_refl _) _
    have B_v44 : Hid (Below w.heap.size w v44) := B_v0.out.trans (b_v44.mono B_v0.out.size)
    have z_v44 : v0.heap.size ≤ v44.heap.size := b_v44.size
    have V_v44 := Lib.hid (V_v0.out.below b_v44 V_v0.out.lt)
    have X_v44 := Lib.hid (X_v0.out.below b_v44 X_v0.out.lt)
    have G8_v44 : Hid (Blk v44 v0.heap.size #[.int .i64 0, .int .i64 0, .int .i64 0, .string ⟨#[]⟩, .slice none 0 0, .slice none 0 0] 25) := by show Blk _ _ _ _; rw [← h_v44]; exact Blk.new _ _ _
    have hg8 : w.heap.size + 1 < v0.heap.size := X_v0.out.lt
    clear h_v44
    refine hK.out _ _ (⟨trivial, six_ V_v44.out, six_ X_v44.out⟩) (fun hHeld => ?_)
    clear hK K
    try simp only [Act.put, List.setIfInBounds_toArray, List.set_cons_zero, List.set_cons_succ]
    refine wpAnyL_ready (rs := [1, 4]) (by kernel_rfl) (by simp) ?_
    refine AllReadyL.cons (o := { dst := some 29, op := .call { callee := .value (.func 8), args := #[.tmp 28], argTypes := #[25] }, type := 25, pos := "law.go:88", after := #[{ on := 0, ground := .data }], guard := none }) rfl (fun K hK => ?_) ?_
    go_simp
    refine ((unhide HO1) v44 (HV0.out.upto B_v44.out)).mono ?_
    rintro e v45 ⟨vv, rfl, vo_v45, b_v45⟩
    have vo2 := vo_v45.keep (w' := v45) (S' := fun i => i < v45.heap.size ∧ i ≠ v0.heap.size) (fun _ _ => rfl) (fun i hi => ⟨hi.2, by have := hi.1; have := G8_v44.out.lt; omega⟩)
    clear vo_v45
    obtain ⟨Cn, en, Ck, ek, rfl, _, _, _, _, _⟩ := id vo2
    unfold ncells at vo2
    unfold ncells
    have B_v45 : Hid (Below w.heap.size w v45) := B_v44.out.trans (b_v45.mono B_v44.out.size)
    have z_v45 : v44.heap.size ≤ v45.heap.size := b_v45.size
    have V_v45 := Lib.hid (V_v44.out.below b_v45 V_v44.out.lt)
    have X_v45 := Lib.hid (X_v44.out.below b_v45 X_v44.out.lt)
    have G8_v45 := Lib.hid (G8_v44.out.below b_v45 G8_v44.out.lt)
    have C_v45 := Lib.hid vo2
    clear vo2
    go_wp2_with fail
    refine hK.out _ _ (⟨trivial, six_ V_v45.out, six_ X_v45.out⟩) (fun hHeld => ?_)
    clear hK K
    try simp only [Act.put, List.setIfInBounds_toArray, List.set_cons_zero, List.set_cons_succ]
    refine wpAnyL_ready (rs := [3, 4]) (by kernel_rfl) (by simp) ?_
    refine AllReadyL.cons (o := { dst := some 31, op := .call { callee := .value (.func 8), args := #[.tmp 30], argTypes := #[25] }, type := 25, pos := "law.go:88", after := #[{ on := 2, ground := .data }, { on := 1, ground := .chain }], guard := none }) rfl (fun K hK => ?_) ?_
    go_simp
    refine ((unhide HO2) v45 (HV1.out.upto B_v45.out)).mono ?_
    rintro e v46 ⟨vv, rfl, vo_v46, b_v46⟩
    have vo2 := vo_v46.keep (w' := v46) (S' := fun i => i < v46.heap.size ∧ i ≠ v0.heap.size) (fun _ _ => rfl) (fun i hi => ⟨hi.2, by have := hi.1; have := G8_v45.out.lt; omega⟩)
    clear vo_v46
    obtain ⟨Dn, fn, Dk, fk, rfl, _, _, _, _, _⟩ := id vo2
    unfold ncells at vo2
    unfold ncells
    have B_v46 : Hid (Below w.heap.size w v46) := B_v45.out.trans (b_v46.mono B_v45.out.size)
    have z_v46 : v45.heap.size ≤ v46.heap.size := b_v46.size
    have V_v46 := Lib.hid (V_v45.out.below b_v46 V_v45.out.lt)
    have X_v46 := Lib.hid (X_v45.out.below b_v46 X_v45.out.lt)
    have G8_v46 := Lib.hid (G8_v45.out.below b_v46 G8_v45.out.lt)
    have C_v46 := Lib.hid (Vo.keep (w' := v46) (S' := fun i => i < v46.heap.size ∧ i ≠ v0.heap.size) C_v45.out (fun i hi => b_v46.block i hi.1) (fun i hi => ⟨Nat.lt_of_lt_of_le hi.1 b_v46.size, hi.2⟩))
    have D_v46 := Lib.hid vo2
    clear vo2
    go_wp2_with fail
    refine hK.out _ _ (⟨trivial, six_ V_v46.out, six_ X_v46.out⟩) (fun hHeld => ?_)
    clear hK K
    try simp only [Act.put, List.setIfInBounds_toArray, List.set_cons_zero, List.set_cons_succ]
    refine wpAnyL_ready (rs := [4]) (by kernel_rfl) (by simp) ?_
    refine AllReadyL.cons (o := { dst := some 7, op := .alloc 25, type := 0, pos := "law.go:88", after := #[], guard := none }) rfl (fun K hK => ?_) AllReadyL.nil
    go_simp
    obtain ⟨v47, h_v47⟩ : ∃ v, v46.alloc (.cells #[.int .i64 0, .int .i64 0, .int .i64 0, .string ⟨#[]⟩, .slice none 0 0, .slice none 0 0] 25) = v := ⟨_, rfl⟩
    rw [h_v47]
    have b_v47 : Below v46.heap.size v46 v47 := by rw [← h_v47]; exact (Below.refl _ _).alloc (Nat.le_refl _) _
    have B_v47 : Hid (Below w.heap.size w v47) := B_v46.out.trans (b_v47.mono B_v46.out.size)
    have z_v47 : v46.heap.size ≤ v47.heap.size := b_v47.size
    have V_v47 := Lib.hid (V_v46.out.below b_v47 V_v46.out.lt)
    have X_v47 := Lib.hid (X_v46.out.below b_v47 X_v46.out.lt)
    have G8_v47 := Lib.hid (G8_v46.out.below b_v47 G8_v46.out.lt)
    have C_v47 := Lib.hid (Vo.keep (w' := v47) (S' := fun i => i < v47.heap.size ∧ i ≠ v0.heap.size ∧ i ≠ v46.heap.size) C_v46.out (fun i hi => b_v47.block i hi.1) (fun i hi => ⟨Nat.lt_of_lt_of_le hi.1 b_v47.size, hi.2, by have := hi.1; omega⟩))
    have D_v47 := Lib.hid (Vo.keep (w' := v47) (S' := fun i => i < v47.heap.size ∧ i ≠ v0.heap.size ∧ i ≠ v46.heap.size) D_v46.out (fun i hi => b_v47.block i hi.1) (fun i hi => ⟨Nat.lt_of_lt_of_le hi.1 b_v47.size, hi.2, by have := hi.1; omega⟩))
    have G7_v47 : Hid (Blk v47 v46.heap.size #[.int .i64 0, .int .i64 0, .int .i64 0, .string ⟨#[]⟩, .slice none 0 0, .slice none 0 0] 25) := by show Blk _ _ _ _; rw [← h_v47]; exact Blk.new _ _ _
    have hg7 : w.heap.size + 1 < v46.heap.size := X_v46.out.lt
    have hgg : v0.heap.size < v46.heap.size := G8_v46.out.lt
    clear h_v47
    refine hK.out _ _ (⟨trivial, six_ V_v47.out, six_ X_v47.out⟩) (fun hHeld => ?_)
    clear hK K
    try simp only [Act.put, List.setIfInBounds_toArray, List.set_cons_zero, List.set_cons_succ]
    refine wpAnyL_ready (rs := [6]) (by kernel_rfl) (by simp) ?_
    refine AllReadyL.cons (o := { dst := none, op := .store 25 (.tmp 7) (.tmp 29), type := 0, pos := "law.go:88", after := #[{ on := 4, ground := .data }, { on := 1, ground := .data }, { on := 3, ground := .chain }, { on := 0, ground := .phase }, { on := 1, ground := .phase }, { on := 2, ground := .textOnly Go.Departure.lateStores }, { on := 3, ground := .textOnly Go.Departure.lateStoresUnsure }, { on := 4, ground := .phase }, { on := 5, ground := .phase }], guard := none }) rfl (fun K hK => ?_) AllReadyL.nil
    have s0 : v47.cell? ⟨v46.heap.size, 0, none⟩ = some (.int .i64 0) := G7_v47.out.cell 0
    have s_0 := G7_v47.out.free 0
    have s1 : v47.cell? ⟨v46.heap.size, 1, none⟩ = some (.int .i64 0) := G7_v47.out.cell 1
    have s_1 := G7_v47.out.free 1
    have s2 : v47.cell? ⟨v46.heap.size, 2, none⟩ = some (.int .i64 0) := G7_v47.out.cell 2
    have s_2 := G7_v47.out.free 2
    have s3 : v47.cell? ⟨v46.heap.size, 3, none⟩ = some (.string ⟨#[]⟩) := G7_v47.out.cell 3
    have s_3 := G7_v47.out.free 3
    have s4 : v47.cell? ⟨v46.heap.size, 4, none⟩ = some (.slice none 0 0) := G7_v47.out.cell 4
    have s_4 := G7_v47.out.free 4
    have s5 : v47.cell? ⟨v46.heap.size, 5, none⟩ = some (.slice none 0 0) := G7_v47.out.cell 5
    have s_5 := G7_v47.out.free 5
    go_simp
    obtain ⟨v48, h_v48⟩ : ∃ v, ((((((v47.setCell ⟨v46.heap.size, 0, none⟩ (.int .i64 n.kind)).setCell ⟨v46.heap.size, 1, none⟩ (.int .i64 n.int)).setCell ⟨v46.heap.size, 2, none⟩ (.int .i64 n.scale)).setCell ⟨v46.heap.size, 3, none⟩ (.string (str n.text))).setCell ⟨v46.heap.size, 4, none⟩ (.slice Cn n.names.length en)).setCell ⟨v46.heap.size, 5, none⟩ (.slice Ck k.len ek)) = v := ⟨_, rfl⟩
    rw [h_v48]
    clear s0 s_0 s1 s_1 s2 s_2 s3 s_3 s4 s_4 s5 s_5
    have B_v48 : Hid (Below w.heap.size w v48) := by show Below _ _ _; rw [← h_v48]; exact below_six B_v47.out (by omega)
    have G7_v48 : Hid (Blk v48 v46.heap.size #[.int .i64 n.kind, .int .i64 n.int, .int .i64 n.scale, .string (str n.text), .slice Cn n.names.length en, .slice Ck k.len ek] 25) := by show Blk _ _ _ _; rw [← h_v48]; exact Blk.put6 G7_v47.out
    have V_v48 := Lib.hid (show Blk v48 _ _ _ from by rw [← h_v48]; exact Blk.six_other V_v47.out (by omega))
    have X_v48 := Lib.hid (show Blk v48 _ _ _ from by rw [← h_v48]; exact Blk.six_other X_v47.out (by omega))
    have G8_v48 := Lib.hid (show Blk v48 _ _ _ from by rw [← h_v48]; exact Blk.six_other G8_v47.out (by omega))
    have C_v48 : Hid (Vo v48 (fun i => i < v48.heap.size ∧ i ≠ v0.heap.size ∧ i ≠ v46.heap.size) n k (agN n Cn en Ck k.len ek)) := by show Vo _ _ _ _ _; rw [← h_v48]; exact vo_six C_v47.out (fun i hi => hi.2.2) (fun i hi => ⟨by simpa using hi.1, hi.2⟩)
    have D_v48 : Hid (Vo v48 (fun i => i < v48.heap.size ∧ i ≠ v0.heap.size ∧ i ≠ v46.heap.size) m q (agN m Dn fn Dk q.len fk)) := by show Vo _ _ _ _ _; rw [← h_v48]; exact vo_six D_v47.out (fun i hi => hi.2.2) (fun i hi => ⟨by simpa using hi.1, hi.2⟩)
    clear h_v48
    refine hK.out _ _ (⟨trivial, six_ V_v48.out, six_ X_v48.out⟩) (fun hHeld => ?_)
    clear hK K
    try simp only [Act.put, List.setIfInBounds_toArray, List.set_cons_zero, List.set_cons_succ]
    refine wpAnyL_ready (rs := [7]) (by kernel_rfl) (by simp) ?_
    refine AllReadyL.late (o := { dst := none, op := .store 25 (.tmp 8) (.tmp 31), type := 0, pos := "law.go:88", after := #[{ on := 5, ground := .data }, { on := 3, ground := .data }, { on := 6, ground := .chain }, { on := 0, ground := .phase }, { on := 1, ground := .phase }, { on := 2, ground := .phase }, { on := 3, ground := .phase }, { on := 4, ground := .phase }, { on := 5, ground := .phase }, { on := 6, ground := .phase }], guard := none }) rfl (by kernel_rfl) (fun K hK => ?_) AllReadyL.nil
    have s0 : v48.cell? ⟨v0.heap.size, 0, none⟩ = some (.int .i64 0) := G8_v48.out.cell 0
    have s_0 := G8_v48.out.free 0
    have s1 : v48.cell? ⟨v0.heap.size, 1, none⟩ = some (.int .i64 0) := G8_v48.out.cell 1
    have s_1 := G8_v48.out.free 1
    have s2 : v48.cell? ⟨v0.heap.size, 2, none⟩ = some (.int .i64 0) := G8_v48.out.cell 2
    have s_2 := G8_v48.out.free 2
    have s3 : v48.cell? ⟨v0.heap.size, 3, none⟩ = some (.string ⟨#[]⟩) := G8_v48.out.cell 3
    have s_3 := G8_v48.out.free 3
    have s4 : v48.cell? ⟨v0.heap.size, 4, none⟩ = some (.slice none 0 0) := G8_v48.out.cell 4
    have s_4 := G8_v48.out.free 4
    have s5 : v48.cell? ⟨v0.heap.size, 5, none⟩ = some (.slice none 0 0) := G8_v48.out.cell 5
    have s_5 := G8_v48.out.free 5
    go_simp
    obtain ⟨v49, h_v49⟩ : ∃ v, ((((((v48.setCell ⟨v0.heap.size, 0, none⟩ (.int .i64 m.kind)).setCell ⟨v0.heap.size, 1, none⟩ (.int .i64 m.int)).setCell ⟨v0.heap.size, 2, none⟩ (.int .i64 m.scale)).setCell ⟨v0.heap.size, 3, none⟩ (.string (str m.text))).setCell ⟨v0.heap.size, 4, none⟩ (.slice Dn m.names.length fn)).setCell ⟨v0.heap.size, 5, none⟩ (.slice Dk q.len fk)) = v := ⟨_, rfl⟩
    rw [h_v49]
    clear s0 s_0 s1 s_1 s2 s_2 s3 s_3 s4 s_4 s5 s_5
    have B_v49 : Hid (Below w.heap.size w v49) := by show Below _ _ _; rw [← h_v49]; exact below_six B_v48.out (by omega)
    have G8_v49 : Hid (Blk v49 v0.heap.size #[.int .i64 m.kind, .int .i64 m.int, .int .i64 m.scale, .string (str m.text), .slice Dn m.names.length fn, .slice Dk q.len fk] 25) := by show Blk _ _ _ _; rw [← h_v49]; exact Blk.put6 G8_v48.out
    have V_v49 := Lib.hid (show Blk v49 _ _ _ from by rw [← h_v49]; exact Blk.six_other V_v48.out (by omega))
    have X_v49 := Lib.hid (show Blk v49 _ _ _ from by rw [← h_v49]; exact Blk.six_other X_v48.out (by omega))
    have G7_v49 := Lib.hid (show Blk v49 _ _ _ from by rw [← h_v49]; exact Blk.six_other G7_v48.out (by omega))
    have C_v49 : Hid (Vo v49 (fun i => i < v49.heap.size ∧ i ≠ v0.heap.size ∧ i ≠ v46.heap.size) n k (agN n Cn en Ck k.len ek)) := by show Vo _ _ _ _ _; rw [← h_v49]; exact vo_six C_v48.out (fun i hi => hi.2.1) (fun i hi => ⟨by simpa using hi.1, hi.2⟩)
    have D_v49 : Hid (Vo v49 (fun i => i < v49.heap.size ∧ i ≠ v0.heap.size ∧ i ≠ v46.heap.size) m q (agN m Dn fn Dk q.len fk)) := by show Vo _ _ _ _ _; rw [← h_v49]; exact vo_six D_v48.out (fun i hi => hi.2.1) (fun i hi => ⟨by simpa using hi.1, hi.2⟩)
    clear h_v49
    have FIN : VF3 w n k An cn Ak ck m q Bn dn Bk dk (.pointer (some ⟨v46.heap.size, 0, none⟩)) (.pointer (some ⟨v0.heap.size, 0, none⟩)) v49 := ⟨v46.heap.size, v0.heap.size, Cn, en, Ck, ek, Dn, fn, Dk, fk, rfl, rfl, st_four B_v49.out ⟨V_v49.out, HV0.out.upto B_v49.out⟩ ⟨X_v49.out, HV1.out.upto B_v49.out⟩ ⟨G7_v49.out, C_v49.out.keep (fun _ _ => rfl) (fun i hi => hi.1)⟩ ⟨G8_v49.out, D_v49.out.keep (fun _ _ => rfl) (fun i hi => hi.1)⟩⟩
    refine hK.out _ _ (⟨six_ V_v49.out, six_ X_v49.out⟩) (fun hHeld => ?_)
    clear hK K
    try simp only [Act.put, List.setIfInBounds_toArray, List.set_cons_zero, List.set_cons_succ]
    refine wpAnyL_done (by kernel_rfl) ?_ _
    rotate_left 1
    refine AllReadyL.cons (o := { dst := some 7, op := .alloc 25, type := 0, pos := "law.go:88", after := #[], guard := none }) rfl (fun K hK => ?_) AllReadyL.nil
    go_simp
    obtain ⟨v50, h_v50⟩ : ∃ v, v45.alloc (.cells #[.int .i64 0, .int .i64 0, .int .i64 0, .string ⟨#[]⟩, .slice none 0 0, .slice none 0 0] 25) = v := ⟨_, rfl⟩
    rw [h_v50]
    have b_v50 : Below v45.heap.size v45 v50 := by rw [← h_v50]; exact (Below.refl _ _).alloc (Nat.le_refl _) _
    have B_v50 : Hid (Below w.heap.size w v50) := B_v45.out.trans (b_v50.mono B_v45.out.size)
    have z_v50 : v45.heap.size ≤ v50.heap.size := b_v50.size
    have V_v50 := Lib.hid (V_v45.out.below b_v50 V_v45.out.lt)
    have X_v50 := Lib.hid (X_v45.out.below b_v50 X_v45.out.lt)
    have G8_v50 := Lib.hid (G8_v45.out.below b_v50 G8_v45.out.lt)
    have C_v50 := Lib.hid (Vo.keep (w' := v50) (S' := fun i => i < v50.heap.size ∧ i ≠ v0.heap.size ∧ i ≠ v45.heap.size) C_v45.out (fun i hi => b_v50.block i hi.1) (fun i hi => ⟨Nat.lt_of_lt_of_le hi.1 b_v50.size, hi.2, by have := hi.1; omega⟩))
    have G7_v50 : Hid (Blk v50 v45.heap.size #[.int .i64 0, .int .i64 0, .int .i64 0, .string ⟨#[]⟩, .slice none 0 0, .slice none 0 0] 25) := by show Blk _ _ _ _; rw [← h_v50]; exact Blk.new _ _ _
    have hg7 : w.heap.size + 1 < v45.heap.size := X_v45.out.lt
    have hgg : v0.heap.size < v45.heap.size := G8_v45.out.lt
    clear h_v50
    refine hK.out _ _ (⟨trivial, six_ V_v50.out, six_ X_v50.out⟩) (fun hHeld => ?_)
    clear hK K
    try simp only [Act.put, List.setIfInBounds_toArray, List.set_cons_zero, List.set_cons_succ]
    refine wpAnyL_ready (rs := [3]) (by kernel_rfl) (by simp) ?_
    refine AllReadyL.cons (o := { dst := some 31, op := .call { callee := .value (.func 8), args := #[.tmp 30], argTypes := #[25] }, type := 25, pos := "law.go:88", after := #[{ on := 2, ground := .data }, { on := 1, ground := .chain }], guard := none }) rfl (fun K hK => ?_) AllReadyL.nil
    go_simp
    refine ((unhide HO2) v50 (HV1.out.upto B_v50.out)).mono ?_
    rintro e v51 ⟨vv, rfl, vo_v51, b_v51⟩
    have vo2 := vo_v51.keep (w' := v51) (S' := fun i => i < v51.heap.size ∧ i ≠ v0.heap.size ∧ i ≠ v45.heap.size) (fun _ _ => rfl) (fun i hi => ⟨hi.2, by have := hi.1; have := G8_v50.out.lt; omega, by have := hi.1; have := G7_v50.out.lt; omega⟩)
    clear vo_v51
    obtain ⟨Dn, fn, Dk, fk, rfl, _, _, _, _, _⟩ := id vo2
    unfold ncells at vo2
    unfold ncells
    have B_v51 : Hid (Below w.heap.size w v51) := B_v50.out.trans (b_v51.mono B_v50.out.size)
    have z_v51 : v50.heap.size ≤ v51.heap.size := b_v51.size
    have V_v51 := Lib.hid (V_v50.out.below b_v51 V_v50.out.lt)
    have X_v51 := Lib.hid (X_v50.out.below b_v51 X_v50.out.lt)
    have G8_v51 := Lib.hid (G8_v50.out.below b_v51 G8_v50.out.lt)
    have G7_v51 := Lib.hid (G7_v50.out.below b_v51 G7_v50.out.lt)
    have C_v51 := Lib.hid (Vo.keep (w' := v51) (S' := fun i => i < v51.heap.size ∧ i ≠ v0.heap.size ∧ i ≠ v45.heap.size) C_v50.out (fun i hi => b_v51.block i hi.1) (fun i hi => ⟨Nat.lt_of_lt_of_le hi.1 b_v51.size, hi.2⟩))
    have D_v51 := Lib.hid vo2
    clear vo2
    go_wp2_with fail
    refine hK.out _ _ (⟨trivial, six_ V_v51.out, six_ X_v51.out⟩) (fun hHeld => ?_)
    clear hK K
    try simp only [Act.put, List.setIfInBounds_toArray, List.set_cons_zero, List.set_cons_succ]
    refine wpAnyL_ready (rs := [6]) (by kernel_rfl) (by simp) ?_
    refine AllReadyL.cons (o := { dst := none, op := .store 25 (.tmp 7) (.tmp 29), type := 0, pos := "law.go:88", after := #[{ on := 4, ground := .data }, { on := 1, ground := .data }, { on := 3, ground := .chain }, { on := 0, ground := .phase }, { on := 1, ground := .phase }, { on := 2, ground := .textOnly Go.Departure.lateStores }, { on := 3, ground := .textOnly Go.Departure.lateStoresUnsure }, { on := 4, ground := .phase }, { on := 5, ground := .phase }], guard := none }) rfl (fun K hK => ?_) AllReadyL.nil
    have s0 : v51.cell? ⟨v45.heap.size, 0, none⟩ = some (.int .i64 0) := G7_v51.out.cell 0
    have s_0 := G7_v51.out.free 0
    have s1 : v51.cell? ⟨v45.heap.size, 1, none⟩ = some (.int .i64 0) := G7_v51.out.cell 1
    have s_1 := G7_v51.out.free 1
    have s2 : v51.cell? ⟨v45.heap.size, 2, none⟩ = some (.int .i64 0) := G7_v51.out.cell 2
    have s_2 := G7_v51.out.free 2
    have s3 : v51.cell? ⟨v45.heap.size, 3, none⟩ = some (.string ⟨#[]⟩) := G7_v51.out.cell 3
    have s_3 := G7_v51.out.free 3
    have s4 : v51.cell? ⟨v45.heap.size, 4, none⟩ = some (.slice none 0 0) := G7_v51.out.cell 4
    have s_4 := G7_v51.out.free 4
    have s5 : v51.cell? ⟨v45.heap.size, 5, none⟩ = some (.slice none 0 0) := G7_v51.out.cell 5
    have s_5 := G7_v51.out.free 5
    go_simp
    obtain ⟨v52, h_v52⟩ : ∃ v, ((((((v51.setCell ⟨v45.heap.size, 0, none⟩ (.int .i64 n.kind)).setCell ⟨v45.heap.size, 1, none⟩ (.int .i64 n.int)).setCell ⟨v45.heap.size, 2, none⟩ (.int .i64 n.scale)).setCell ⟨v45.heap.size, 3, none⟩ (.string (str n.text))).setCell ⟨v45.heap.size, 4, none⟩ (.slice Cn n.names.length en)).setCell ⟨v45.heap.size, 5, none⟩ (.slice Ck k.len ek)) = v := ⟨_, rfl⟩
    rw [h_v52]
    clear s0 s_0 s1 s_1 s2 s_2 s3 s_3 s4 s_4 s5 s_5
    have B_v52 : Hid (Below w.heap.size w v52) := by show Below _ _ _; rw [← h_v52]; exact below_six B_v51.out (by omega)
    have G7_v52 : Hid (Blk v52 v45.heap.size #[.int .i64 n.kind, .int .i64 n.int, .int .i64 n.scale, .string (str n.text), .slice Cn n.names.length en, .slice Ck k.len ek] 25) := by show Blk _ _ _ _; rw [← h_v52]; exact Blk.put6 G7_v51.out
    have V_v52 := Lib.hid (show Blk v52 _ _ _ from by rw [← h_v52]; exact Blk.six_other V_v51.out (by omega))
    have X_v52 := Lib.hid (show Blk v52 _ _ _ from by rw [← h_v52]; exact Blk.six_other X_v51.out (by omega))
    have G8_v52 := Lib.hid (show Blk v52 _ _ _ from by rw [← h_v52]; exact Blk.six_other G8_v51.out (by omega))
    have C_v52 : Hid (Vo v52 (fun i => i < v52.heap.size ∧ i ≠ v0.heap.size ∧ i ≠ v45.heap.size) n k (agN n Cn en Ck k.len ek)) := by show Vo _ _ _ _ _; rw [← h_v52]; exact vo_six C_v51.out (fun i hi => hi.2.2) (fun i hi => ⟨by simpa using hi.1, hi.2⟩)
    have D_v52 : Hid (Vo v52 (fun i => i < v52.heap.size ∧ i ≠ v0.heap.size ∧ i ≠ v45.heap.size) m q (agN m Dn fn Dk q.len fk)) := by show Vo _ _ _ _ _; rw [← h_v52]; exact vo_six D_v51.out (fun i hi => hi.2.2) (fun i hi => ⟨by simpa using hi.1, hi.2⟩)
    clear h_v52
    refine hK.out _ _ (⟨trivial, six_ V_v52.out, six_ X_v52.out⟩) (fun hHeld => ?_)
    clear hK K
    try simp only [Act.put, List.setIfInBounds_toArray, List.set_cons_zero, List.set_cons_succ]
    refine wpAnyL_ready (rs := [7]) (by kernel_rfl) (by simp) ?_
    refine AllReadyL.late (o := { dst := none, op := .store 25 (.tmp 8) (.tmp 31), type := 0, pos := "law.go:88", after := #[{ on := 5, ground := .data }, { on := 3, ground := .data }, { on := 6, ground := .chain }, { on := 0, ground := .phase }, { on := 1, ground := .phase }, { on := 2, ground := .phase }, { on := 3, ground := .phase }, { on := 4, ground := .phase }, { on := 5, ground := .phase }, { on := 6, ground := .phase }], guard := none }) rfl (by kernel_rfl) (fun K hK => ?_) AllReadyL.nil
    have s0 : v52.cell? ⟨v0.heap.size, 0, none⟩ = some (.int .i64 0) := G8_v52.out.cell 0
    have s_0 := G8_v52.out.free 0
    have s1 : v52.cell? ⟨v0.heap.size, 1, none⟩ = some (.int .i64 0) := G8_v52.out.cell 1
    have s_1 := G8_v52.out.free 1
    have s2 : v52.cell? ⟨v0.heap.size, 2, none⟩ = some (.int .i64 0) := G8_v52.out.cell 2
    have s_2 := G8_v52.out.free 2
    have s3 : v52.cell? ⟨v0.heap.size, 3, none⟩ = some (.string ⟨#[]⟩) := G8_v52.out.cell 3
    have s_3 := G8_v52.out.free 3
    have s4 : v52.cell? ⟨v0.heap.size, 4, none⟩ = some (.slice none 0 0) := G8_v52.out.cell 4
    have s_4 := G8_v52.out.free 4
    have s5 : v52.cell? ⟨v0.heap.size, 5, none⟩ = some (.slice none 0 0) := G8_v52.out.cell 5
    have s_5 := G8_v52.out.free 5
    go_simp
    obtain ⟨v53, h_v53⟩ : ∃ v, ((((((v52.setCell ⟨v0.heap.size, 0, none⟩ (.int .i64 m.kind)).setCell ⟨v0.heap.size, 1, none⟩ (.int .i64 m.int)).setCell ⟨v0.heap.size, 2, none⟩ (.int .i64 m.scale)).setCell ⟨v0.heap.size, 3, none⟩ (.string (str m.text))).setCell ⟨v0.heap.size, 4, none⟩ (.slice Dn m.names.length fn)).setCell ⟨v0.heap.size, 5, none⟩ (.slice Dk q.len fk)) = v := ⟨_, rfl⟩
    rw [h_v53]
    clear s0 s_0 s1 s_1 s2 s_2 s3 s_3 s4 s_4 s5 s_5
    have B_v53 : Hid (Below w.heap.size w v53) := by show Below _ _ _; rw [← h_v53]; exact below_six B_v52.out (by omega)
    have G8_v53 : Hid (Blk v53 v0.heap.size #[.int .i64 m.kind, .int .i64 m.int, .int .i64 m.scale, .string (str m.text), .slice Dn m.names.length fn, .slice Dk q.len fk] 25) := by show Blk _ _ _ _; rw [← h_v53]; exact Blk.put6 G8_v52.out
    have V_v53 := Lib.hid (show Blk v53 _ _ _ from by rw [← h_v53]; exact Blk.six_other V_v52.out (by omega))
    have X_v53 := Lib.hid (show Blk v53 _ _ _ from by rw [← h_v53]; exact Blk.six_other X_v52.out (by omega))
    have G7_v53 := Lib.hid (show Blk v53 _ _ _ from by rw [← h_v53]; exact Blk.six_other G7_v52.out (by omega))
    have C_v53 : Hid (Vo v53 (fun i => i < v53.heap.size ∧ i ≠ v0.heap.size ∧ i ≠ v45.heap.size) n k (agN n Cn en Ck k.len ek)) := by show Vo _ _ _ _ _; rw [← h_v53]; exact vo_six C_v52.out (fun i hi => hi.2.1) (fun i hi => ⟨by simpa using hi.1, hi.2⟩)
    have D_v53 : Hid (Vo v53 (fun i => i < v53.heap.size ∧ i ≠ v0.heap.size ∧ i ≠ v45.heap.size) m q (agN m Dn fn Dk q.len fk)) := by show Vo _ _ _ _ _; rw [← h_v53]; exact vo_six D_v52.out (fun i hi => hi.2.1) (fun i hi => ⟨by simpa using hi.1, hi.2⟩)
    clear h_v53
    have FIN : VF3 w n k An cn Ak ck m q Bn dn Bk dk (.pointer (some ⟨v45.heap.size, 0, none⟩)) (.pointer (some ⟨v0.heap.size, 0, none⟩)) v53 := ⟨v45.heap.size, v0.heap.size, Cn, en, Ck, ek, Dn, fn, Dk, fk, rfl, rfl, st_four B_v53.out ⟨V_v53.out, HV0.out.upto B_v53.out⟩ ⟨X_v53.out, HV1.out.upto B_v53.out⟩ ⟨G7_v53.out, C_v53.out.keep (fun _ _ => rfl) (fun i hi => hi.1)⟩ ⟨G8_v53.out, D_v53.out.keep (fun _ _ => rfl) (fun i hi => hi.1)⟩⟩
    refine hK.out _ _ (⟨six_ V_v53.out, six_ X_v53.out⟩) (fun hHeld => ?_)
    clear hK K
    try simp only [Act.put, List.setIfInBounds_toArray, List.set_cons_zero, List.set_cons_succ]
    refine wpAnyL_done (by kernel_rfl) ?_ _
    rotate_left 1
    refine AllReadyL.cons (o := { dst := some 7, op := .alloc 25, type := 0, pos := "law.go:88", after := #[], guard := none }) rfl (fun K hK => ?_) AllReadyL.nil
    go_simp
    obtain ⟨v54, h_v54⟩ : ∃ v, v44.alloc (.cells #[.int .i64 0, .int .i64 0, .int .i64 0, .string ⟨#[]⟩, .slice none 0 0, .slice none 0 0] 25) = v := ⟨_, rfl⟩
    rw [h_v54]
    have b_v54 : Below v44.heap.size v44 v54 := by rw [← h_v54]; exact (Below.refl _ _).alloc (Nat.le_refl _) _
    have B_v54 : Hid (Below w.heap.size w v54) := B_v44.out.trans (b_v54.mono B_v44.out.size)
    have z_v54 : v44.heap.size ≤ v54.heap.size := b_v54.size
    have V_v54 := Lib.hid (V_v44.out.below b_v54 V_v44.out.lt)
    have X_v54 := Lib.hid (X_v44.out.below b_v54 X_v44.out.lt)
    have G8_v54 := Lib.hid (G8_v44.out.below b_v54 G8_v44.out.lt)
    have G7_v54 : Hid (Blk v54 v44.heap.size #[.int .i64 0, .int .i64 0, .int .i64 0, .string ⟨#[]⟩, .slice none 0 0, .slice none 0 0] 25) := by show Blk _ _ _ _; rw [← h_v54]; exact Blk.new _ _ _
    have hg7 : w.heap.size + 1 < v44.heap.size := X_v44.out.lt
    have hgg : v0.heap.size < v44.heap.size := G8_v44.out.lt
    clear h_v54
    refine hK.out _ _ (⟨trivial, six_ V_v54.out, six_ X_v54.out⟩) (fun hHeld => ?_)
    clear hK K
    try simp only [Act.put, List.setIfInBounds_toArray, List.set_cons_zero, List.set_cons_succ]
    refine wpAnyL_ready (rs := [1]) (by kernel_rfl) (by simp) ?_
    refine AllReadyL.cons (o := { dst := some 29, op := .call { callee := .value (.func 8), args := #[.tmp 28], argTypes := #[25] }, type := 25, pos := "law.go:88", after := #[{ on := 0, ground := .data }], guard := none }) rfl (fun K hK => ?_) AllReadyL.nil
    go_simp
    refine ((unhide HO1) v54 (HV0.out.upto B_v54.out)).mono ?_
    rintro e v55 ⟨vv, rfl, vo_v55, b_v55⟩
    have vo2 := vo_v55.keep (w' := v55) (S' := fun i => i < v55.heap.size ∧ i ≠ v0.heap.size ∧ i ≠ v44.heap.size) (fun _ _ => rfl) (fun i hi => ⟨hi.2, by have := hi.1; have := G8_v54.out.lt; omega, by have := hi.1; have := G7_v54.out.lt; omega⟩)
    clear vo_v55
    obtain ⟨Cn, en, Ck, ek, rfl, _, _, _, _, _⟩ := id vo2
    unfold ncells at vo2
    unfold ncells
    have B_v55 : Hid (Below w.heap.size w v55) := B_v54.out.trans (b_v55.mono B_v54.out.size)
    have z_v55 : v54.heap.size ≤ v55.heap.size := b_v55.size
    have V_v55 := Lib.hid (V_v54.out.below b_v55 V_v54.out.lt)
    have X_v55 := Lib.hid (X_v54.out.below b_v55 X_v54.out.lt)
    have G8_v55 := Lib.hid (G8_v54.out.below b_v55 G8_v54.out.lt)
    have G7_v55 := Lib.hid (G7_v54.out.below b_v55 G7_v54.out.lt)
    have C_v55 := Lib.hid vo2
    clear vo2
    go_wp2_with fail
    refine hK.out _ _ (⟨trivial, six_ V_v55.out, six_ X_v55.out⟩) (fun hHeld => ?_)
    clear hK K
    try simp only [Act.put, List.setIfInBounds_toArray, List.set_cons_zero, List.set_cons_succ]
    refine wpAnyL_ready (rs := [3]) (by kernel_rfl) (by simp) ?_
    refine AllReadyL.cons (o := { dst := some 31, op := .call { callee := .value (.func 8), args := #[.tmp 30], argTypes := #[25] }, type := 25, pos := "law.go:88", after := #[{ on := 2, ground := .data }, { on := 1, ground := .chain }], guard := none }) rfl (fun K hK => ?_) AllReadyL.nil
    go_simp
    refine ((unhide HO2) v55 (HV1.out.upto B_v55.out)).mono ?_
    rintro e v56 ⟨vv, rfl, vo_v56, b_v56⟩
    have vo2 := vo_v56.keep (w' := v56) (S' := fun i => i < v56.heap.size ∧ i ≠ v0.heap.size ∧ i ≠ v44.heap.size) (fun _ _ => rfl) (fun i hi => ⟨hi.2, by have := hi.1; have := G8_v55.out.lt; omega, by have := hi.1; have := G7_v55.out.lt; omega⟩)
    clear vo_v56
    obtain ⟨Dn, fn, Dk, fk, rfl, _, _, _, _, _⟩ := id vo2
    unfold ncells at vo2
    unfold ncells
    have B_v56 : Hid (Below w.heap.size w v56) := B_v55.out.trans (b_v56.mono B_v55.out.size)
    have z_v56 : v55.heap.size ≤ v56.heap.size := b_v56.size
    have V_v56 := Lib.hid (V_v55.out.below b_v56 V_v55.out.lt)
    have X_v56 := Lib.hid (X_v55.out.below b_v56 X_v55.out.lt)
    have G8_v56 := Lib.hid (G8_v55.out.below b_v56 G8_v55.out.lt)
    have G7_v56 := Lib.hid (G7_v55.out.below b_v56 G7_v55.out.lt)
    have C_v56 := Lib.hid (Vo.keep (w' := v56) (S' := fun i => i < v56.heap.size ∧ i ≠ v0.heap.size ∧ i ≠ v44.heap.size) C_v55.out (fun i hi => b_v56.block i hi.1) (fun i hi => ⟨Nat.lt_of_lt_of_le hi.1 b_v56.size, hi.2⟩))
    have D_v56 := Lib.hid vo2
    clear vo2
    go_wp2_with fail
    refine hK.out _ _ (⟨trivial, six_ V_v56.out, six_ X_v56.out⟩) (fun hHeld => ?_)
    clear hK K
    try simp only [Act.put, List.setIfInBounds_toArray, List.set_cons_zero, List.set_cons_succ]
    refine wpAnyL_ready (rs := [6]) (by kernel_rfl) (by simp) ?_
    refine AllReadyL.cons (o := { dst := none, op := .store 25 (.tmp 7) (.tmp 29), type := 0, pos := "law.go:88", after := #[{ on := 4, ground := .data }, { on := 1, ground := .data }, { on := 3, ground := .chain }, { on := 0, ground := .phase }, { on := 1, ground := .phase }, { on := 2, ground := .textOnly Go.Departure.lateStores }, { on := 3, ground := .textOnly Go.Departure.lateStoresUnsure }, { on := 4, ground := .phase }, { on := 5, ground := .phase }], guard := none }) rfl (fun K hK => ?_) AllReadyL.nil
    have s0 : v56.cell? ⟨v44.heap.size, 0, none⟩ = some (.int .i64 0) := G7_v56.out.cell 0
    have s_0 := G7_v56.out.free 0
    have s1 : v56.cell? ⟨v44.heap.size, 1, none⟩ = some (.int .i64 0) := G7_v56.out.cell 1
    have s_1 := G7_v56.out.free 1
    have s2 : v56.cell? ⟨v44.heap.size, 2, none⟩ = some (.int .i64 0) := G7_v56.out.cell 2
    have s_2 := G7_v56.out.free 2
    have s3 : v56.cell? ⟨v44.heap.size, 3, none⟩ = some (.string ⟨#[]⟩) := G7_v56.out.cell 3
    have s_3 := G7_v56.out.free 3
    have s4 : v56.cell? ⟨v44.heap.size, 4, none⟩ = some (.slice none 0 0) := G7_v56.out.cell 4
    have s_4 := G7_v56.out.free 4
    have s5 : v56.cell? ⟨v44.heap.size, 5, none⟩ = some (.slice none 0 0) := G7_v56.out.cell 5
    have s_5 := G7_v56.out.free 5
    go_simp
    obtain ⟨v57, h_v57⟩ : ∃ v, ((((((v56.setCell ⟨v44.heap.size, 0, none⟩ (.int .i64 n.kind)).setCell ⟨v44.heap.size, 1, none⟩ (.int .i64 n.int)).setCell ⟨v44.heap.size, 2, none⟩ (.int .i64 n.scale)).setCell ⟨v44.heap.size, 3, none⟩ (.string (str n.text))).setCell ⟨v44.heap.size, 4, none⟩ (.slice Cn n.names.length en)).setCell ⟨v44.heap.size, 5, none⟩ (.slice Ck k.len ek)) = v := ⟨_, rfl⟩
    rw [h_v57]
    clear s0 s_0 s1 s_1 s2 s_2 s3 s_3 s4 s_4 s5 s_5
    have B_v57 : Hid (Below w.heap.size w v57) := by show Below _ _ _; rw [← h_v57]; exact below_six B_v56.out (by omega)
    have G7_v57 : Hid (Blk v57 v44.heap.size #[.int .i64 n.kind, .int .i64 n.int, .int .i64 n.scale, .string (str n.text), .slice Cn n.names.length en, .slice Ck k.len ek] 25) := by show Blk _ _ _ _; rw [← h_v57]; exact Blk.put6 G7_v56.out
    have V_v57 := Lib.hid (show Blk v57 _ _ _ from by rw [← h_v57]; exact Blk.six_other V_v56.out (by omega))
    have X_v57 := Lib.hid (show Blk v57 _ _ _ from by rw [← h_v57]; exact Blk.six_other X_v56.out (by omega))
    have G8_v57 := Lib.hid (show Blk v57 _ _ _ from by rw [← h_v57]; exact Blk.six_other G8_v56.out (by omega))
    have C_v57 : Hid (Vo v57 (fun i => i < v57.heap.size ∧ i ≠ v0.heap.size ∧ i ≠ v44.heap.size) n k (agN n Cn en Ck k.len ek)) := by show Vo _ _ _ _ _; rw [← h_v57]; exact vo_six C_v56.out (fun i hi => hi.2.2) (fun i hi => ⟨by simpa using hi.1, hi.2⟩)
    have D_v57 : Hid (Vo v57 (fun i => i < v57.heap.size ∧ i ≠ v0.heap.size ∧ i ≠ v44.heap.size) m q (agN m Dn fn Dk q.len fk)) := by show Vo _ _ _ _ _; rw [← h_v57]; exact vo_six D_v56.out (fun i hi => hi.2.2) (fun i hi => ⟨by simpa using hi.1, hi.2⟩)
    clear h_v57
    refine hK.out _ _ (⟨trivial, six_ V_v57.out, six_ X_v57.out⟩) (fun hHeld => ?_)
    clear hK K
    try simp only [Act.put, List.setIfInBounds_toArray, List.set_cons_zero, List.set_cons_succ]
    refine wpAnyL_ready (rs := [7]) (by kernel_rfl) (by simp) ?_
    refine AllReadyL.late (o := { dst := none, op := .store 25 (.tmp 8) (.tmp 31), type := 0, pos := "law.go:88", after := #[{ on := 5, ground := .data }, { on := 3, ground := .data }, { on := 6, ground := .chain }, { on := 0, ground := .phase }, { on := 1, ground := .phase }, { on := 2, ground := .phase }, { on := 3, ground := .phase }, { on := 4, ground := .phase }, { on := 5, ground := .phase }, { on := 6, ground := .phase }], guard := none }) rfl (by kernel_rfl) (fun K hK => ?_) AllReadyL.nil
    have s0 : v57.cell? ⟨v0.heap.size, 0, none⟩ = some (.int .i64 0) := G8_v57.out.cell 0
    have s_0 := G8_v57.out.free 0
    have s1 : v57.cell? ⟨v0.heap.size, 1, none⟩ = some (.int .i64 0) := G8_v57.out.cell 1
    have s_1 := G8_v57.out.free 1
    have s2 : v57.cell? ⟨v0.heap.size, 2, none⟩ = some (.int .i64 0) := G8_v57.out.cell 2
    have s_2 := G8_v57.out.free 2
    have s3 : v57.cell? ⟨v0.heap.size, 3, none⟩ = some (.string ⟨#[]⟩) := G8_v57.out.cell 3
    have s_3 := G8_v57.out.free 3
    have s4 : v57.cell? ⟨v0.heap.size, 4, none⟩ = some (.slice none 0 0) := G8_v57.out.cell 4
    have s_4 := G8_v57.out.free 4
    have s5 : v57.cell? ⟨v0.heap.size, 5, none⟩ = some (.slice none 0 0) := G8_v57.out.cell 5
    have s_5 := G8_v57.out.free 5
    go_simp
    obtain ⟨v58, h_v58⟩ : ∃ v, ((((((v57.setCell ⟨v0.heap.size, 0, none⟩ (.int .i64 m.kind)).setCell ⟨v0.heap.size, 1, none⟩ (.int .i64 m.int)).setCell ⟨v0.heap.size, 2, none⟩ (.int .i64 m.scale)).setCell ⟨v0.heap.size, 3, none⟩ (.string (str m.text))).setCell ⟨v0.heap.size, 4, none⟩ (.slice Dn m.names.length fn)).setCell ⟨v0.heap.size, 5, none⟩ (.slice Dk q.len fk)) = v := ⟨_, rfl⟩
    rw [h_v58]
    clear s0 s_0 s1 s_1 s2 s_2 s3 s_3 s4 s_4 s5 s_5
    have B_v58 : Hid (Below w.heap.size w v58) := by show Below _ _ _; rw [← h_v58]; exact below_six B_v57.out (by omega)
    have G8_v58 : Hid (Blk v58 v0.heap.size #[.int .i64 m.kind, .int .i64 m.int, .int .i64 m.scale, .string (str m.text), .slice Dn m.names.length fn, .slice Dk q.len fk] 25) := by show Blk _ _ _ _; rw [← h_v58]; exact Blk.put6 G8_v57.out
    have V_v58 := Lib.hid (show Blk v58 _ _ _ from by rw [← h_v58]; exact Blk.six_other V_v57.out (by omega))
    have X_v58 := Lib.hid (show Blk v58 _ _ _ from by rw [← h_v58]; exact Blk.six_other X_v57.out (by omega))
    have G7_v58 := Lib.hid (show Blk v58 _ _ _ from by rw [← h_v58]; exact Blk.six_other G7_v57.out (by omega))
    have C_v58 : Hid (Vo v58 (fun i => i < v58.heap.size ∧ i ≠ v0.heap.size ∧ i ≠ v44.heap.size) n k (agN n Cn en Ck k.len ek)) := by show Vo _ _ _ _ _; rw [← h_v58]; exact vo_six C_v57.out (fun i hi => hi.2.1) (fun i hi => ⟨by simpa using hi.1, hi.2⟩)
    have D_v58 : Hid (Vo v58 (fun i => i < v58.heap.size ∧ i ≠ v0.heap.size ∧ i ≠ v44.heap.size) m q (agN m Dn fn Dk q.len fk)) := by show Vo _ _ _ _ _; rw [← h_v58]; exact vo_six D_v57.out (fun i hi => hi.2.1) (fun i hi => ⟨by simpa using hi.1, hi.2⟩)
    clear h_v58
    have FIN : VF3 w n k An cn Ak ck m q Bn dn Bk dk (.pointer (some ⟨v44.heap.size, 0, none⟩)) (.pointer (some ⟨v0.heap.size, 0, none⟩)) v58 := ⟨v44.heap.size, v0.heap.size, Cn, en, Ck, ek, Dn, fn, Dk, fk, rfl, rfl, st_four B_v58.out ⟨V_v58.out, HV0.out.upto B_v58.out⟩ ⟨X_v58.out, HV1.out.upto B_v58.out⟩ ⟨G7_v58.out, C_v58.out.keep (fun _ _ => rfl) (fun i hi => hi.1)⟩ ⟨G8_v58.out, D_v58.out.keep (fun _ _ => rfl) (fun i hi => hi.1)⟩⟩
    refine hK.out _ _ (⟨six_ V_v58.out, six_ X_v58.out⟩) (fun hHeld => ?_)
    clear hK K
    try simp only [Act.put, List.setIfInBounds_toArray, List.set_cons_zero, List.set_cons_succ]
    refine wpAnyL_done (by kernel_rfl) ?_ _
    all_goals (
      go_wp2_with fail
      go_meet
      exact FIN)
  case rest =>
    clear B_w2 V_w2 X_w2 HO1 HO2 HV0 HV1 hsz hx5
    obtain ⟨g7, g8, Cn, en, Ck, ek, Dn, fn, Dk, fk, rfl, rfl, st⟩ := hcut
    have ST_wc := Lib.hid st
    clear st
    obtain ⟨x00, x01, x02, x03, x04, x05⟩ : Six0 wc w.heap.size n An cn Ak k.len ck := ST_wc.out.six 0 rfl
    go_wp2_with fail
    refine ((unhide HCK) _ _ (show Vo wc (· < wc.heap.size) n k (.agg #[.int .i64 n.kind, .int .i64 n.int, .int .i64 n.scale, .string (str n.text), .slice An n.names.length cn, .slice Ak k.len ck]) from ST_wc.out.v 0 rfl)).mono ?_
    rintro e w4 ⟨rfl, b4⟩
    clear x00 x01 x02 x03 x04 x05
    have ST_w4 := Lib.hid (ST_wc.out.step b4)
    clear ST_wc b4
    obtain ⟨x20, x21, x22, x23, x24, x25⟩ : Six0 w4 g7 n Cn en Ck k.len ek := ST_w4.out.six 2 rfl
    go_wp2_with fail
    refine ((unhide HF1) _ _ (show Vo w4 (· < w4.heap.size) n k (.agg #[.int .i64 n.kind, .int .i64 n.int, .int .i64 n.scale, .string (str n.text), .slice Cn n.names.length en, .slice Ck k.len ek]) from ST_w4.out.v 2 rfl)).mono ?_
    rintro e w5 ⟨A5, c5, A5', c5', rfl, hv5, b5⟩
    clear x20 x21 x22 x23 x24 x25
    have ST_w5 := Lib.hid (ST_w4.out.step b5)
    clear ST_w4 b5
    have HV5 := Lib.hid hv5
    clear hv5
    unfold ncells
    generalize hwx1 : w5.alloc (.cells #[.int .i64 0, .int .i64 0, .int .i64 0, .string ⟨#[]⟩, .slice none 0 0, .slice none 0 0] 25) = wx1
    have bwx1 : Hid (Blk wx1 w5.heap.size #[.int .i64 0, .int .i64 0, .int .i64 0, .string ⟨#[]⟩, .slice none 0 0, .slice none 0 0] 25) := by show Blk _ _ _ _; rw [← hwx1]; exact Blk.new _ _ _
    have p0 : wx1.cell? ⟨w5.heap.size, 0, none⟩ = some (.int .i64 0) := bwx1.out.cell 0
    have p_0 := bwx1.out.free 0
    have p1 : wx1.cell? ⟨w5.heap.size, 1, none⟩ = some (.int .i64 0) := bwx1.out.cell 1
    have p_1 := bwx1.out.free 1
    have p2 : wx1.cell? ⟨w5.heap.size, 2, none⟩ = some (.int .i64 0) := bwx1.out.cell 2
    have p_2 := bwx1.out.free 2
    have p3 : wx1.cell? ⟨w5.heap.size, 3, none⟩ = some (.string ⟨#[]⟩) := bwx1.out.cell 3
    have p_3 := bwx1.out.free 3
    have p4 : wx1.cell? ⟨w5.heap.size, 4, none⟩ = some (.slice none 0 0) := bwx1.out.cell 4
    have p_4 := bwx1.out.free 4
    have p5 : wx1.cell? ⟨w5.heap.size, 5, none⟩ = some (.slice none 0 0) := bwx1.out.cell 5
    have p_5 := bwx1.out.free 5
    go_upto_region 6 with fail
    clear p0 p_0 p1 p_1 p2 p_2 p3 p_3 p4 p_4 p5 p_5
    obtain ⟨wb1, hwb1⟩ : ∃ v, ((((((wx1.setCell ⟨w5.heap.size, 0, none⟩ (.int .i64 FNd.kind)).setCell ⟨w5.heap.size, 1, none⟩ (.int .i64 FNd.int)).setCell ⟨w5.heap.size, 2, none⟩ (.int .i64 FNd.scale)).setCell ⟨w5.heap.size, 3, none⟩ (.string (str FNd.text))).setCell ⟨w5.heap.size, 4, none⟩ (.slice A5 FNd.names.length c5)).setCell ⟨w5.heap.size, 5, none⟩ (.slice A5' FF.len c5')) = v := ⟨_, rfl⟩
    rw [hwb1]
    have hst := st_put ST_w5.out HV5.out (W' := wb1) (by rw [← hwb1, ← hwx1])
    obtain ⟨gb1, hgb1⟩ : ∃ g, w5.heap.size = g := ⟨_, rfl⟩
    have ST_wb1 := Lib.hid hst.1
    have bb := hst.2
    rw [hgb1] at ST_wb1
    rw [hgb1]
    clear hst bb hwb1 hwx1 bwx1 HV5 ST_w5 hgb1
    obtain ⟨x00, x01, x02, x03, x04, x05⟩ : Six0 wb1 w.heap.size n An cn Ak k.len ck := ST_wb1.out.six 0 rfl
    go_wp2_with fail
    refine ((unhide HF2) _ _ (show Vo wb1 (· < wb1.heap.size) n k (.agg #[.int .i64 n.kind, .int .i64 n.int, .int .i64 n.scale, .string (str n.text), .slice An n.names.length cn, .slice Ak k.len ck]) from ST_wb1.out.v 0 rfl)).mono ?_
    rintro e w6 ⟨A6, c6, A6', c6', rfl, hv6, b6⟩
    clear x00 x01 x02 x03 x04 x05
    have ST_w6 := Lib.hid (ST_wb1.out.step b6)
    clear ST_wb1 b6
    have HV6 := Lib.hid hv6
    clear hv6
    unfold ncells
    generalize hwx2 : w6.alloc (.cells #[.int .i64 0, .int .i64 0, .int .i64 0, .string ⟨#[]⟩, .slice none 0 0, .slice none 0 0] 25) = wx2
    have bwx2 : Hid (Blk wx2 w6.heap.size #[.int .i64 0, .int .i64 0, .int .i64 0, .string ⟨#[]⟩, .slice none 0 0, .slice none 0 0] 25) := by show Blk _ _ _ _; rw [← hwx2]; exact Blk.new _ _ _
    have p0 : wx2.cell? ⟨w6.heap.size, 0, none⟩ = some (.int .i64 0) := bwx2.out.cell 0
    have p_0 := bwx2.out.free 0
    have p1 : wx2.cell? ⟨w6.heap.size, 1, none⟩ = some (.int .i64 0) := bwx2.out.cell 1
    have p_1 := bwx2.out.free 1
    have p2 : wx2.cell? ⟨w6.heap.size, 2, none⟩ = some (.int .i64 0) := bwx2.out.cell 2
    have p_2 := bwx2.out.free 2
    have p3 : wx2.cell? ⟨w6.heap.size, 3, none⟩ = some (.string ⟨#[]⟩) := bwx2.out.cell 3
    have p_3 := bwx2.out.free 3
    have p4 : wx2.cell? ⟨w6.heap.size, 4, none⟩ = some (.slice none 0 0) := bwx2.out.cell 4
    have p_4 := bwx2.out.free 4
    have p5 : wx2.cell? ⟨w6.heap.size, 5, none⟩ = some (.slice none 0 0) := bwx2.out.cell 5
    have p_5 := bwx2.out.free 5
    go_upto_region 7 with fail
    clear p0 p_0 p1 p_1 p2 p_2 p3 p_3 p4 p_4 p5 p_5
    obtain ⟨wb2, hwb2⟩ : ∃ v, ((((((wx2.setCell ⟨w6.heap.size, 0, none⟩ (.int .i64 FNd.kind)).setCell ⟨w6.heap.size, 1, none⟩ (.int .i64 FNd.int)).setCell ⟨w6.heap.size, 2, none⟩ (.int .i64 FNd.scale)).setCell ⟨w6.heap.size, 3, none⟩ (.string (str FNd.text))).setCell ⟨w6.heap.size, 4, none⟩ (.slice A6 FNd.names.length c6)).setCell ⟨w6.heap.size, 5, none⟩ (.slice A6' FF.len c6')) = v := ⟨_, rfl⟩
    rw [hwb2]
    have hst := st_put ST_w6.out HV6.out (W' := wb2) (by rw [← hwb2, ← hwx2])
    obtain ⟨gb2, hgb2⟩ : ∃ g, w6.heap.size = g := ⟨_, rfl⟩
    have ST_wb2 := Lib.hid hst.1
    have bb := hst.2
    rw [hgb2] at ST_wb2
    rw [hgb2]
    clear hst bb hwb2 hwx2 bwx2 HV6 ST_w6 hgb2
    obtain ⟨x40, x41, x42, x43, x44, x45⟩ : Six0 wb2 gb1 FNd A5 c5 A5' FF.len c5' := ST_wb2.out.six 4 rfl
    obtain ⟨x50, x51, x52, x53, x54, x55⟩ : Six0 wb2 gb2 FNd A6 c6 A6' FF.len c6' := ST_wb2.out.six 5 rfl
    go_wp2_with fail
    refine ((unhide HEQ) _ _ _ _ _ (show Vo wb2 (· < wb2.heap.size) FNd FF (.agg #[.int .i64 FNd.kind, .int .i64 FNd.int, .int .i64 FNd.scale, .string (str FNd.text), .slice A5 FNd.names.length c5, .slice A5' FF.len c5']) from ST_wb2.out.v 4 rfl) (show Vo wb2 (· < wb2.heap.size) FNd FF (.agg #[.int .i64 FNd.kind, .int .i64 FNd.int, .int .i64 FNd.scale, .string (str FNd.text), .slice A6 FNd.names.length c6, .slice A6' FF.len c6']) from ST_wb2.out.v 5 rfl)).mono ?_
    rintro e w7 ⟨rfl, b7⟩
    clear x40 x41 x42 x43 x44 x45 x50 x51 x52 x53 x54 x55
    have ST_w7 := Lib.hid (ST_wb2.out.step b7)
    clear ST_wb2 b7
    go_upto_region 9 with fail
    have ST8 := ST_w7
    obtain ⟨x20, x21, x22, x23, x24, x25⟩ : Six0 w7 g7 n Cn en Ck k.len ek := ST_w7.out.six 2 rfl
    obtain ⟨x30, x31, x32, x33, x34, x35⟩ : Six0 w7 g8 m Dn fn Dk q.len fk := ST_w7.out.six 3 rfl
    go_wp2_with fail
    refine ((unhide HWI) _ _ _ (show Vo w7 (· < w7.heap.size) n k (.agg #[.int .i64 n.kind, .int .i64 n.int, .int .i64 n.scale, .string (str n.text), .slice Cn n.names.length en, .slice Ck k.len ek]) from ST_w7.out.v 2 rfl) (show Vo w7 (· < w7.heap.size) m q (.agg #[.int .i64 m.kind, .int .i64 m.int, .int .i64 m.scale, .string (str m.text), .slice Dn m.names.length fn, .slice Dk q.len fk]) from ST_w7.out.v 3 rfl)).mono ?_
    rintro e w9 ⟨A9, c9, A9', c9', dz, rfl, hv9, dp9, b9⟩
    clear x20 x21 x22 x23 x24 x25 x30 x31 x32 x33 x34 x35
    have D9 : Hid (Dp (Fresh w7.heap.size w9.heap.size) w9 dz _) := dp9
    have H8_w9 := Lib.hid b9
    have H9_w9 := Lib.hid (Below.refl w9.heap.size w9)
    have HV9 := Lib.hid hv9
    clear hv9 dp9
    have ST_w9 := Lib.hid (ST_w7.out.step b9)
    clear ST_w7 b9
    unfold ncells
    generalize hwx3 : w9.alloc (.cells #[.int .i64 0, .int .i64 0, .int .i64 0, .string ⟨#[]⟩, .slice none 0 0, .slice none 0 0] 25) = wx3
    have bwx3 : Hid (Blk wx3 w9.heap.size #[.int .i64 0, .int .i64 0, .int .i64 0, .string ⟨#[]⟩, .slice none 0 0, .slice none 0 0] 25) := by show Blk _ _ _ _; rw [← hwx3]; exact Blk.new _ _ _
    have p0 : wx3.cell? ⟨w9.heap.size, 0, none⟩ = some (.int .i64 0) := bwx3.out.cell 0
    have p_0 := bwx3.out.free 0
    have p1 : wx3.cell? ⟨w9.heap.size, 1, none⟩ = some (.int .i64 0) := bwx3.out.cell 1
    have p_1 := bwx3.out.free 1
    have p2 : wx3.cell? ⟨w9.heap.size, 2, none⟩ = some (.int .i64 0) := bwx3.out.cell 2
    have p_2 := bwx3.out.free 2
    have p3 : wx3.cell? ⟨w9.heap.size, 3, none⟩ = some (.string ⟨#[]⟩) := bwx3.out.cell 3
    have p_3 := bwx3.out.free 3
    have p4 : wx3.cell? ⟨w9.heap.size, 4, none⟩ = some (.slice none 0 0) := bwx3.out.cell 4
    have p_4 := bwx3.out.free 4
    have p5 : wx3.cell? ⟨w9.heap.size, 5, none⟩ = some (.slice none 0 0) := bwx3.out.cell 5
    have p_5 := bwx3.out.free 5
    go_upto_region 10 with fail
    clear p0 p_0 p1 p_1 p2 p_2 p3 p_3 p4 p_4 p5 p_5
    obtain ⟨wb3, hwb3⟩ : ∃ v, ((((((wx3.setCell ⟨w9.heap.size, 0, none⟩ (.int .i64 N.kind)).setCell ⟨w9.heap.size, 1, none⟩ (.int .i64 N.int)).setCell ⟨w9.heap.size, 2, none⟩ (.int .i64 N.scale)).setCell ⟨w9.heap.size, 3, none⟩ (.string (str N.text))).setCell ⟨w9.heap.size, 4, none⟩ (.slice A9 N.names.length c9)).setCell ⟨w9.heap.size, 5, none⟩ (.slice A9' KK.len c9')) = v := ⟨_, rfl⟩
    rw [hwb3]
    have hst := st_put ST_w9.out HV9.out (W' := wb3) (by rw [← hwb3, ← hwx3])
    obtain ⟨gb3, hgb3⟩ : ∃ g, w9.heap.size = g := ⟨_, rfl⟩
    have ST_wb3 := Lib.hid hst.1
    have bb := hst.2
    rw [hgb3] at ST_wb3
    rw [hgb3]
    have H8_wb3 := Lib.hid (H8_w9.out.trans (bb.mono H8_w9.out.size))
    clear H8_w9
    have H9_wb3 := Lib.hid (H9_w9.out.trans (bb.mono H9_w9.out.size))
    clear H9_w9
    clear hst bb hwb3 hwx3 bwx3 HV9 ST_w9 hgb3
    obtain ⟨x00, x01, x02, x03, x04, x05⟩ : Six0 wb3 w.heap.size n An cn Ak k.len ck := ST_wb3.out.six 0 rfl
    obtain ⟨x10, x11, x12, x13, x14, x15⟩ : Six0 wb3 (w.heap.size + 1) m Bn dn Bk q.len dk := ST_wb3.out.six 1 rfl
    go_wp2_with fail
    refine ((unhide HRW) _ _ _ (show Vo wb3 (· < wb3.heap.size) n k (.agg #[.int .i64 n.kind, .int .i64 n.int, .int .i64 n.scale, .string (str n.text), .slice An n.names.length cn, .slice Ak k.len ck]) from ST_wb3.out.v 0 rfl) (show Vo wb3 (· < wb3.heap.size) m q (.agg #[.int .i64 m.kind, .int .i64 m.int, .int .i64 m.scale, .string (str m.text), .slice Bn m.names.length dn, .slice Bk q.len dk]) from ST_wb3.out.v 1 rfl)).mono ?_
    rintro e w10 ⟨A10, c10, A10', c10', rfl, hv10, b10⟩
    clear x00 x01 x02 x03 x04 x05 x10 x11 x12 x13 x14 x15
    have ST_w10 := Lib.hid (ST_wb3.out.step b10)
    have H8_w10 := Lib.hid (H8_wb3.out.trans (b10.mono H8_wb3.out.size))
    clear H8_wb3
    have H9_w10 := Lib.hid (H9_wb3.out.trans (b10.mono H9_wb3.out.size))
    clear H9_wb3
    clear ST_wb3 b10
    have HV10 := Lib.hid hv10
    clear hv10
    unfold ncells
    generalize hwx4 : w10.alloc (.cells #[.int .i64 0, .int .i64 0, .int .i64 0, .string ⟨#[]⟩, .slice none 0 0, .slice none 0 0] 25) = wx4
    have bwx4 : Hid (Blk wx4 w10.heap.size #[.int .i64 0, .int .i64 0, .int .i64 0, .string ⟨#[]⟩, .slice none 0 0, .slice none 0 0] 25) := by show Blk _ _ _ _; rw [← hwx4]; exact Blk.new _ _ _
    have p0 : wx4.cell? ⟨w10.heap.size, 0, none⟩ = some (.int .i64 0) := bwx4.out.cell 0
    have p_0 := bwx4.out.free 0
    have p1 : wx4.cell? ⟨w10.heap.size, 1, none⟩ = some (.int .i64 0) := bwx4.out.cell 1
    have p_1 := bwx4.out.free 1
    have p2 : wx4.cell? ⟨w10.heap.size, 2, none⟩ = some (.int .i64 0) := bwx4.out.cell 2
    have p_2 := bwx4.out.free 2
    have p3 : wx4.cell? ⟨w10.heap.size, 3, none⟩ = some (.string ⟨#[]⟩) := bwx4.out.cell 3
    have p_3 := bwx4.out.free 3
    have p4 : wx4.cell? ⟨w10.heap.size, 4, none⟩ = some (.slice none 0 0) := bwx4.out.cell 4
    have p_4 := bwx4.out.free 4
    have p5 : wx4.cell? ⟨w10.heap.size, 5, none⟩ = some (.slice none 0 0) := bwx4.out.cell 5
    have p_5 := bwx4.out.free 5
    go_upto_region 11 with fail
    clear p0 p_0 p1 p_1 p2 p_2 p3 p_3 p4 p_4 p5 p_5
    obtain ⟨wb4, hwb4⟩ : ∃ v, ((((((wx4.setCell ⟨w10.heap.size, 0, none⟩ (.int .i64 N.kind)).setCell ⟨w10.heap.size, 1, none⟩ (.int .i64 N.int)).setCell ⟨w10.heap.size, 2, none⟩ (.int .i64 N.scale)).setCell ⟨w10.heap.size, 3, none⟩ (.string (str N.text))).setCell ⟨w10.heap.size, 4, none⟩ (.slice A10 N.names.length c10)).setCell ⟨w10.heap.size, 5, none⟩ (.slice A10' KK.len c10')) = v := ⟨_, rfl⟩
    rw [hwb4]
    have hst := st_put ST_w10.out HV10.out (W' := wb4) (by rw [← hwb4, ← hwx4])
    obtain ⟨gb4, hgb4⟩ : ∃ g, w10.heap.size = g := ⟨_, rfl⟩
    have ST_wb4 := Lib.hid hst.1
    have bb := hst.2
    rw [hgb4] at ST_wb4
    rw [hgb4]
    have H8_wb4 := Lib.hid (H8_w10.out.trans (bb.mono H8_w10.out.size))
    clear H8_w10
    have H9_wb4 := Lib.hid (H9_w10.out.trans (bb.mono H9_w10.out.size))
    clear H9_w10
    clear hst bb hwb4 hwx4 bwx4 HV10 ST_w10 hgb4
    obtain ⟨x60, x61, x62, x63, x64, x65⟩ : Six0 wb4 gb3 N A9 c9 A9' KK.len c9' := ST_wb4.out.six 6 rfl
    obtain ⟨x70, x71, x72, x73, x74, x75⟩ : Six0 wb4 gb4 N A10 c10 A10' KK.len c10' := ST_wb4.out.six 7 rfl
    go_wp2_with fail
    refine ((unhide HEQ) _ _ _ _ _ (show Vo wb4 (· < wb4.heap.size) N KK (.agg #[.int .i64 N.kind, .int .i64 N.int, .int .i64 N.scale, .string (str N.text), .slice A9 N.names.length c9, .slice A9' KK.len c9']) from ST_wb4.out.v 6 rfl) (show Vo wb4 (· < wb4.heap.size) N KK (.agg #[.int .i64 N.kind, .int .i64 N.int, .int .i64 N.scale, .string (str N.text), .slice A10 N.names.length c10, .slice A10' KK.len c10']) from ST_wb4.out.v 7 rfl)).mono ?_
    rintro e w11 ⟨rfl, b11⟩
    clear x60 x61 x62 x63 x64 x65 x70 x71 x72 x73 x74 x75
    have ST_w11 := Lib.hid (ST_wb4.out.step b11)
    have H8_w11 := Lib.hid (H8_wb4.out.trans (b11.mono H8_wb4.out.size))
    clear H8_wb4
    have H9_w11 := Lib.hid (H9_wb4.out.trans (b11.mono H9_wb4.out.size))
    clear H9_wb4
    clear ST_wb4 b11
    go_upto_region 17 with fail
    obtain ⟨x60, x61, x62, x63, x64, x65⟩ : Six0 w11 gb3 N A9 c9 A9' KK.len c9' := ST_w11.out.six 6 rfl
    go_wp2_with fail
    have hdp := Dp.keep (w' := w11) (S' := Fresh w7.heap.size w9.heap.size) (fun i hi => H9_w11.out.block i hi.2) (fun _ h => h) _ _ D9.out
    refine (spoilt_any dz (Fresh w7.heap.size w9.heap.size) _ w11 (fun b hb => Nat.lt_of_lt_of_le hb.2 H9_w11.out.size) hdp).mono ?_
    rintro e w17 ⟨rfl, hs⟩
    clear x60 x61 x62 x63 x64 x65
    have ST_w17 := Lib.hid (ST8.out.step (H8_w11.out.trans (soft_below hs (fun i hi => hi.1) H8_w11.out.size)))
    clear hs hdp D9 H8_w11 H9_w11 ST_w11
    obtain ⟨x20, x21, x22, x23, x24, x25⟩ : Six0 w17 g7 n Cn en Ck k.len ek := ST_w17.out.six 2 rfl
    obtain ⟨x00, x01, x02, x03, x04, x05⟩ : Six0 w17 w.heap.size n An cn Ak k.len ck := ST_w17.out.six 0 rfl
    go_wp2_with fail
    refine ((unhide HEQ) _ _ _ _ _ (show Vo w17 (· < w17.heap.size) n k (.agg #[.int .i64 n.kind, .int .i64 n.int, .int .i64 n.scale, .string (str n.text), .slice Cn n.names.length en, .slice Ck k.len ek]) from ST_w17.out.v 2 rfl) (show Vo w17 (· < w17.heap.size) n k (.agg #[.int .i64 n.kind, .int .i64 n.int, .int .i64 n.scale, .string (str n.text), .slice An n.names.length cn, .slice Ak k.len ck]) from ST_w17.out.v 0 rfl)).mono ?_
    rintro e w18 ⟨rfl, b18⟩
    clear x20 x21 x22 x23 x24 x25 x00 x01 x02 x03 x04 x05
    have ST_w18 := Lib.hid (ST_w17.out.step b18)
    clear ST_w17 b18
    obtain ⟨x30, x31, x32, x33, x34, x35⟩ : Six0 w18 g8 m Dn fn Dk q.len fk := ST_w18.out.six 3 rfl
    obtain ⟨x10, x11, x12, x13, x14, x15⟩ : Six0 w18 (w.heap.size + 1) m Bn dn Bk q.len dk := ST_w18.out.six 1 rfl
    go_wp2_with fail
    refine ((unhide HEQ) _ _ _ _ _ (show Vo w18 (· < w18.heap.size) m q (.agg #[.int .i64 m.kind, .int .i64 m.int, .int .i64 m.scale, .string (str m.text), .slice Dn m.names.length fn, .slice Dk q.len fk]) from ST_w18.out.v 3 rfl) (show Vo w18 (· < w18.heap.size) m q (.agg #[.int .i64 m.kind, .int .i64 m.int, .int .i64 m.scale, .string (str m.text), .slice Bn m.names.length dn, .slice Bk q.len dk]) from ST_w18.out.v 1 rfl)).mono ?_
    rintro e w19 ⟨rfl, b19⟩
    clear x30 x31 x32 x33 x34 x35 x10 x11 x12 x13 x14 x15
    have ST_w19 := Lib.hid (ST_w18.out.step b19)
    clear ST_w18 b19
    go_wp2_with fail
    refine (known5_any _).mono ?_
    rintro e w20 ⟨rfl, b20⟩
    go_wp2_with fail
    go_ret
    exact ⟨rfl, (ST_w19.out.step b20).1⟩
end Go.Proofs.Ytfcbcbpnlnkpcaa

/- value.With: the name is there. (Printed by gen/vwith.py.) -/
import Derived.Test.YtfcbcbpnlnkpcaaQWithS
import Derived.Test.YtfcbcbpnlnkpcaaQCheck
import Derived.Test.YtfcbcbpnlnkpcaaQLate
import Derived.Deep.RegionHeld3
import Derived.Outline
namespace Go.Proofs.Ytfcbcbpnlnkpcaa
set_option linter.all false
open Go.RowKit

set_option maxRecDepth 100000 in
set_option maxHeartbeats 12800000 in
theorem with_hit (n : Nd) (k : F) (m : Nd) (q : F) (v u : Value) (x : List UInt8) (w : World) (hw0 : cost n + wtF k ≤ 2500) (hw1 : cost m + wtF q ≤ 2500) (hx : x.length ≤ 500) (hv : Vo w (· < w.heap.size) n k v) (hu : Vo w (· < w.heap.size) m q u) (h1 : chk n k 1 = 0) (h9 : n.kind = 9) (h3 : chk m q 1 = 0) (hup : Up n.names) (hnl : n.names.length = k.len) (hkl : k.len ≤ 200) (hh : hitB x n.names = 1) :
    Calls Try.prog 21 #[v, .string (str x), u] w (RetW (withV n k x m q) w) := by
  obtain ⟨An, cn, Ak, ck, rfl, hok0, l0, l1, _, _⟩ := id hv
  obtain ⟨Bn, dn, Bk, dk, rfl, hok1, l2, l3, _, _⟩ := id hu
  have HV0 := Lib.hid hv
  have HV1 := Lib.hid hu
  have HOK := Lib.hid (And.intro hok0 (And.intro l0 l1))
  have ST := St.box_new (St.box_new (St.nil w) hv) hu
  clear hv hu hok0 hok1 l0 l1 l2 l3
  unfold ncells at *
  generalize hW1 : (w.alloc (.cells #[.int .i64 n.kind, .int .i64 n.int, .int .i64 n.scale, .string (str n.text), .slice An n.names.length cn, .slice Ak k.len ck] 25)).alloc (.cells #[.int .i64 m.kind, .int .i64 m.int, .int .i64 m.scale, .string (str m.text), .slice Bn m.names.length dn, .slice Bk q.len dk] 25) = W1
  have ST : St w [⟨w.heap.size, n, k, An, cn, Ak, ck⟩, ⟨w.heap.size + 1, m, q, Bn, dn, Bk, dk⟩] W1 := by rw [← hW1]; have := ST; simpa using this
  have hs1 : W1.heap.size = w.heap.size + 2 := by rw [← hW1]; simp
  generalize hW2 : W1.alloc (.cells #[.int .i64 0, .int .i64 0, .int .i64 0, .string ⟨#[]⟩, .slice none 0 0, .slice none 0 0] 25) = W2
  have b12 : Below W1.heap.size W1 W2 := by rw [← hW2]; exact (Below.refl _ _).alloc (Nat.le_refl _) _
  have B_W : Hid (Below w.heap.size w W2) := (ST.step b12).1
  have V_W : Hid (Blk W2 w.heap.size #[.int .i64 n.kind, .int .i64 n.int, .int .i64 n.scale, .string (str n.text), .slice An n.names.length cn, .slice Ak k.len ck] 25) := ((ST.step b12).box 0 rfl).1
  have X_W : Hid (Blk W2 (w.heap.size + 1) #[.int .i64 m.kind, .int .i64 m.int, .int .i64 m.scale, .string (str m.text), .slice Bn m.names.length dn, .slice Bk q.len dk] 25) := ((ST.step b12).box 1 rfl).1
  have R_W : Hid (Blk W2 (w.heap.size + 2) #[.int .i64 0, .int .i64 0, .int .i64 0, .string ⟨#[]⟩, .slice none 0 0, .slice none 0 0] 25) := by show Blk _ _ _ _; rw [← hs1, ← hW2]; exact Blk.new _ _ _
  have hs1 := Lib.hid hs1
  clear ST b12

  have HRES : Hid (withV n k x m q = if chk (layN n x) (layK n k x m q) 1 ≠ 0 then (chk (layN n x) (layK n k x m q) 1, zNd, .nil) else (0, layN n x, layK n k x m q)) := by show _ = _; unfold withV; rw [if_neg (by omega), if_neg (by omega), if_neg (by omega)]
  have HC1 : Hid (∀ W, Vo W (· < W.heap.size) n k (.agg #[.int .i64 n.kind, .int .i64 n.int, .int .i64 n.scale, .string (str n.text), .slice An n.names.length cn, .slice Ak k.len ck]) → Calls Try.prog 11 #[.agg #[.int .i64 n.kind, .int .i64 n.int, .int .i64 n.scale, .string (str n.text), .slice An n.names.length cn, .slice Ak k.len ck]] W (Ret (.int .i64 0) W)) := fun W h => by have := Check_any n k _ W h; rw [h1] at this; exact this
  have HC2 : Hid (∀ W, Vo W (· < W.heap.size) m q (.agg #[.int .i64 m.kind, .int .i64 m.int, .int .i64 m.scale, .string (str m.text), .slice Bn m.names.length dn, .slice Bk q.len dk]) → Calls Try.prog 11 #[.agg #[.int .i64 m.kind, .int .i64 m.int, .int .i64 m.scale, .string (str m.text), .slice Bn m.names.length dn, .slice Bk q.len dk]] W (Ret (.int .i64 0) W)) := fun W h => by have := Check_any m q _ W h; rw [h3] at this; exact this
  have HO1 : Hid (∀ W, Vo W (· < W.heap.size) n k (.agg #[.int .i64 n.kind, .int .i64 n.int, .int .i64 n.scale, .string (str n.text), .slice An n.names.length cn, .slice Ak k.len ck]) → Calls Try.prog 33 #[.agg #[.int .i64 n.kind, .int .i64 n.int, .int .i64 n.scale, .string (str n.text), .slice An n.names.length cn, .slice Ak k.len ck]] W (RetO n k W)) := fun W h => own_any n k _ W hw0 h
  have HO2 : Hid (∀ W, Vo W (· < W.heap.size) m q (.agg #[.int .i64 m.kind, .int .i64 m.int, .int .i64 m.scale, .string (str m.text), .slice Bn m.names.length dn, .slice Bk q.len dk]) → Calls Try.prog 33 #[.agg #[.int .i64 m.kind, .int .i64 m.int, .int .i64 m.scale, .string (str m.text), .slice Bn m.names.length dn, .slice Bk q.len dk]] W (RetO m q W)) := fun W h => own_any m q _ W hw1 h
  have HLE := Lib.hid (hitB_le x n.names)
  have HBI := Lib.hid (bsI_up x hup)
  have HFO := Lib.hid (found_eq n.names x)
  have HH := Lib.hid hh
  have HNE : Hid (layN n x = n) := by
    show _ = _
    unfold layN
    rw [hh, layL_hit hh]
  have HKE : Hid (layK n k x m q = layF k (cntB x n.names) 1 m q) := by
    show _ = _
    unfold layK
    rw [hh]
  rw [hh] at HLE HFO
  obtain ⟨i, hi⟩ : ∃ i, cntB x n.names = i := ⟨_, rfl⟩
  rw [hi] at HKE HLE HBI HFO
  generalize layN n x = N at *
  generalize layK n k x m q = KK at *
  have H9 := Lib.hid h9
  have HS := Lib.hid (And.intro hnl (And.intro hkl hx))
  clear h1 h3 hup hh hi h9 hw0 hw1 hnl hkl hx
  go_enter Try.func21, Try.ntmps21
  have x0 : W2.cell? ⟨w.heap.size, 0, none⟩ = some (.int .i64 n.kind) := V_W.out.cell 0
  have x1 : W2.cell? ⟨w.heap.size, 1, none⟩ = some (.int .i64 n.int) := V_W.out.cell 1
  have x2 : W2.cell? ⟨w.heap.size, 2, none⟩ = some (.int .i64 n.scale) := V_W.out.cell 2
  have x3 : W2.cell? ⟨w.heap.size, 3, none⟩ = some (.string (str n.text)) := V_W.out.cell 3
  have x4 : W2.cell? ⟨w.heap.size, 4, none⟩ = some (.slice An n.names.length cn) := V_W.out.cell 4
  have x5 : W2.cell? ⟨w.heap.size, 5, none⟩ = some (.slice Ak k.len ck) := V_W.out.cell 5
  go_wp2_with fail
  refine ((unhide HC1) _ (HV0.out.upto B_W.out)).mono ?_
  rintro e w3 ⟨rfl, b3⟩
  clear hW1 hW2
  clear x0 x1 x2 x3 x4 x5
  have B_w3 : Hid (Below w.heap.size w w3) := B_W.out.trans (b3.mono B_W.out.size)
  have V_w3 := Lib.hid (V_W.out.below b3 V_W.out.lt)
  have X_w3 := Lib.hid (X_W.out.below b3 X_W.out.lt)
  have R_w3 := Lib.hid (R_W.out.below b3 R_W.out.lt)
  clear B_W V_W X_W R_W b3
  have x0 : w3.cell? ⟨w.heap.size, 0, none⟩ = some (.int .i64 9) := by rw [← H9.out]; exact V_w3.out.cell 0
  have y0 : w3.cell? ⟨(w.heap.size + 1), 0, none⟩ = some (.int .i64 m.kind) := X_w3.out.cell 0
  have y1 : w3.cell? ⟨(w.heap.size + 1), 1, none⟩ = some (.int .i64 m.int) := X_w3.out.cell 1
  have y2 : w3.cell? ⟨(w.heap.size + 1), 2, none⟩ = some (.int .i64 m.scale) := X_w3.out.cell 2
  have y3 : w3.cell? ⟨(w.heap.size + 1), 3, none⟩ = some (.string (str m.text)) := X_w3.out.cell 3
  have y4 : w3.cell? ⟨(w.heap.size + 1), 4, none⟩ = some (.slice Bn m.names.length dn) := X_w3.out.cell 4
  have y5 : w3.cell? ⟨(w.heap.size + 1), 5, none⟩ = some (.slice Bk q.len dk) := X_w3.out.cell 5
  go_wp2_with fail
  refine ((unhide HC2) _ (HV1.out.upto B_w3.out)).mono ?_
  rintro e w4 ⟨rfl, b4⟩
  clear x0
  clear y0 y1 y2 y3 y4 y5
  have B_w4 : Hid (Below w.heap.size w w4) := B_w3.out.trans (b4.mono B_w3.out.size)
  have V_w4 := Lib.hid (V_w3.out.below b4 V_w3.out.lt)
  have X_w4 := Lib.hid (X_w3.out.below b4 X_w3.out.lt)
  have R_w4 := Lib.hid (R_w3.out.below b4 R_w3.out.lt)
  clear B_w3 V_w3 X_w3 R_w3 b4
  go_upto_region 9 with fail
  have B_W := B_w4
  clear B_w4
  have V_W := V_w4
  clear V_w4
  have X_W := X_w4
  clear X_w4
  have R_W := R_w4
  clear R_w4
  go_cut [10] (fun s10 wx => With9 w n k m q s10 wx)
  case first =>
    have B_v0 : Hid (Below w.heap.size w w4.drew) := below_drewN B_W.out 1
    have V_v0 : Hid (Blk w4.drew w.heap.size #[.int .i64 n.kind, .int .i64 n.int, .int .i64 n.scale, .string (str n.text), .slice An n.names.length cn, .slice Ak k.len ck] 25) := V_W.out
    have X_v0 : Hid (Blk w4.drew (w.heap.size + 1) #[.int .i64 m.kind, .int .i64 m.int, .int .i64 m.scale, .string (str m.text), .slice Bn m.names.length dn, .slice Bk q.len dk] 25) := X_W.out
    have R_v0 : Hid (Blk w4.drew (w.heap.size + 2) #[.int .i64 0, .int .i64 0, .int .i64 0, .string ⟨#[]⟩, .slice none 0 0, .slice none 0 0] 25) := R_W.out
    refine wp_region_late 6 (fun w' => w'.cell? ⟨(w.heap.size + 1), 0, none⟩ = some (.int .i64 m.kind) ∧ w'.cell? ⟨(w.heap.size + 1), 1, none⟩ = some (.int .i64 m.int) ∧ w'.cell? ⟨(w.heap.size + 1), 2, none⟩ = some (.int .i64 m.scale) ∧ w'.cell? ⟨(w.heap.size + 1), 3, none⟩ = some (.string (str m.text)) ∧ w'.cell? ⟨(w.heap.size + 1), 4, none⟩ = some (.slice Bn m.names.length dn) ∧ w'.cell? ⟨(w.heap.size + 1), 5, none⟩ = some (.slice Bk q.len dk)) (fun w' => w'.cell? ⟨w.heap.size, 0, none⟩ = some (.int .i64 n.kind) ∧ w'.cell? ⟨w.heap.size, 1, none⟩ = some (.int .i64 n.int) ∧ w'.cell? ⟨w.heap.size, 2, none⟩ = some (.int .i64 n.scale) ∧ w'.cell? ⟨w.heap.size, 3, none⟩ = some (.string (str n.text)) ∧ w'.cell? ⟨w.heap.size, 4, none⟩ = some (.slice An n.names.length cn) ∧ w'.cell? ⟨w.heap.size, 5, none⟩ = some (.slice Ak k.len ck)) (by kernel_rfl) (⟨six_ X_v0.out, six_ V_v0.out⟩) (fun hHeld => ?_)
    generalize w4.drew = v0 at *
    have z_v0 := R_v0.out.lt
    clear B_W V_W X_W R_W
    refine wpAnyL_takeT (i := 0) (oi := { dst := some 30, op := .load 25 (.tmp 3), type := 25, pos := "value.go:196", after := #[], guard := none }) (v := ?_) rfl (by kernel_rfl) (by kernel_rfl) (by kernel_rfl) (by kernel_rfl) (fun _ _ _ h => h) (Or.inl ⟨by rfl, ?_⟩) (⟨.inr hHeld.1, hHeld.2⟩) ?_
    rotate_left
    · (intro w hSw; (try dsimp only at hSw); go_simp; try with_reducible rfl)
    try simp only [Act.put, List.setIfInBounds_toArray, List.set_cons_zero, List.set_cons_succ]
    refine wpAnyL_take (i := 2) (oi := { dst := some 32, op := .load 25 (.tmp 5), type := 25, pos := "value.go:196", after := #[], guard := none }) (v := ?_) rfl (by kernel_rfl) (by kernel_rfl) (by kernel_rfl) (by kernel_rfl) (fun _ _ _ h => h) (Or.inl ⟨by rfl, ?_⟩) (by assumption) ?_
    rotate_left
    · (intro w hSw; (try dsimp only at hSw); go_simp; try with_reducible rfl)
    try simp only [Act.put, List.setIfInBounds_toArray, List.set_cons_zero, List.set_cons_succ]
    refine wpAnyL_ready (rs := [1, 4]) (by kernel_rfl) (by simp) ?_
    refine AllReadyL.cons (o := { dst := some 31, op := .call { callee := .value (.func 33), args := #[.tmp 30], argTypes := #[25] }, type := 25, pos := "value.go:196", after := #[{ on := 0, ground := .data }], guard := none }) rfl (fun K hK => ?_) ?_
    go_simp
    refine ((unhide HO1) v0 (HV0.out.upto B_v0.out)).mono ?_
    rintro e v1 hret
    obtain ⟨Cn, en, Ck, ek, xs, rfl, o_v1, b_v1⟩ := hret.ownI
    clear hret
    unfold ncells
    have B_v1 : Hid (Below w.heap.size w v1) := B_v0.out.trans (b_v1.mono B_v0.out.size)
    have V_v1 := Lib.hid (V_v0.out.below b_v1 V_v0.out.lt)
    have X_v1 := Lib.hid (X_v0.out.below b_v1 X_v0.out.lt)
    have R_v1 := Lib.hid (R_v0.out.below b_v1 R_v0.out.lt)
    have z_v1 : v0.heap.size ≤ v1.heap.size := b_v1.size
    have O_v1 := Lib.hid o_v1
    clear o_v1
    go_wp2_with fail
    refine hK.out _ _ (⟨six_ X_v1.out, six_ V_v1.out⟩) (fun hHeld => ?_)
    clear hK K
    try simp only [Act.put, List.setIfInBounds_toArray, List.set_cons_zero, List.set_cons_succ]
    refine wpAnyL_ready (rs := [3, 4]) (by kernel_rfl) (by simp) ?_
    refine AllReadyL.cons (o := { dst := some 33, op := .call { callee := .value (.func 33), args := #[.tmp 32], argTypes := #[25] }, type := 25, pos := "value.go:196", after := #[{ on := 2, ground := .data }, { on := 1, ground := .chain }], guard := none }) rfl (fun K hK => ?_) ?_
    go_simp
    refine ((unhide HO2) v1 (HV1.out.upto B_v1.out)).mono ?_
    rintro e v2 hret
    obtain ⟨Dn, fn, Dk, fk, ys, rfl, o_v2, b_v2⟩ := hret.ownI
    clear hret
    unfold ncells
    have B_v2 : Hid (Below w.heap.size w v2) := B_v1.out.trans (b_v2.mono B_v1.out.size)
    have V_v2 := Lib.hid (V_v1.out.below b_v2 V_v1.out.lt)
    have X_v2 := Lib.hid (X_v1.out.below b_v2 X_v1.out.lt)
    have R_v2 := Lib.hid (R_v1.out.below b_v2 R_v1.out.lt)
    have O_v2 := Lib.hid (O_v1.out.below b_v2)
    have z_v2 : v1.heap.size ≤ v2.heap.size := b_v2.size
    have Q_v2 := Lib.hid o_v2
    clear o_v2
    go_wp2_with fail
    refine hK.out _ _ (⟨six_ X_v2.out, six_ V_v2.out⟩) (fun hHeld => ?_)
    clear hK K
    try simp only [Act.put, List.setIfInBounds_toArray, List.set_cons_zero, List.set_cons_succ]
    refine wpAnyL_ready (rs := [4]) (by kernel_rfl) (by simp) ?_
    refine AllReadyL.cons (o := { dst := some 10, op := .alloc 25, type := 0, pos := "value.go:196", after := #[], guard := none }) rfl (fun K hK => ?_) AllReadyL.nil
    go_simp
    obtain ⟨v3, h_v3⟩ : ∃ v, v2.alloc (.cells #[.int .i64 0, .int .i64 0, .int .i64 0, .string ⟨#[]⟩, .slice none 0 0, .slice none 0 0] 25) = v := ⟨_, rfl⟩
    rw [h_v3]
    have b_v3 : Below v2.heap.size v2 v3 := by rw [← h_v3]; exact (Below.refl _ _).alloc (Nat.le_refl _) _
    have B_v3 : Hid (Below w.heap.size w v3) := B_v2.out.trans (b_v3.mono B_v2.out.size)
    have V_v3 := Lib.hid (V_v2.out.below b_v3 V_v2.out.lt)
    have X_v3 := Lib.hid (X_v2.out.below b_v3 X_v2.out.lt)
    have R_v3 := Lib.hid (R_v2.out.below b_v3 R_v2.out.lt)
    have O_v3 := Lib.hid (O_v2.out.below b_v3)
    have Q_v3 := Lib.hid (Q_v2.out.below b_v3)
    have z_v3 : v2.heap.size ≤ v3.heap.size := b_v3.size
    have G_v3 : Hid (Blk v3 v2.heap.size #[.int .i64 0, .int .i64 0, .int .i64 0, .string ⟨#[]⟩, .slice none 0 0, .slice none 0 0] 25) := by show Blk _ _ _ _; rw [← h_v3]; exact Blk.new _ _ _
    have hg : w.heap.size + 2 < v2.heap.size := R_v2.out.lt
    have z1_v3 : v3.heap.size = v2.heap.size + 1 := by rw [← h_v3]; simp
    clear h_v3
    have goO := O_v2.out.2.2.2.2.2.2.2
    have goQ := Q_v2.out.2.2.2.2.2.2.2
    refine hK.out _ _ (⟨six_ X_v3.out, six_ V_v3.out⟩) (fun hHeld => ?_)
    clear hK K
    try simp only [Act.put, List.setIfInBounds_toArray, List.set_cons_zero, List.set_cons_succ]
    refine wpAnyL_ready (rs := [5]) (by kernel_rfl) (by simp) ?_
    refine AllReadyL.cons (o := { dst := none, op := .store 25 (.tmp 10) (.tmp 31), type := 0, pos := "value.go:196", after := #[{ on := 4, ground := .data }, { on := 1, ground := .data }, { on := 3, ground := .chain }, { on := 0, ground := .phase }, { on := 1, ground := .phase }, { on := 2, ground := .textOnly Go.Departure.lateStores }, { on := 3, ground := .textOnly Go.Departure.lateStoresUnsure }, { on := 4, ground := .phase }], guard := none }) rfl (fun K hK => ?_) AllReadyL.nil
    have s0 : v3.cell? ⟨v2.heap.size, 0, none⟩ = some (.int .i64 0) := G_v3.out.cell 0
    have s_0 := G_v3.out.free 0
    have s1 : v3.cell? ⟨v2.heap.size, 1, none⟩ = some (.int .i64 0) := G_v3.out.cell 1
    have s_1 := G_v3.out.free 1
    have s2 : v3.cell? ⟨v2.heap.size, 2, none⟩ = some (.int .i64 0) := G_v3.out.cell 2
    have s_2 := G_v3.out.free 2
    have s3 : v3.cell? ⟨v2.heap.size, 3, none⟩ = some (.string ⟨#[]⟩) := G_v3.out.cell 3
    have s_3 := G_v3.out.free 3
    have s4 : v3.cell? ⟨v2.heap.size, 4, none⟩ = some (.slice none 0 0) := G_v3.out.cell 4
    have s_4 := G_v3.out.free 4
    have s5 : v3.cell? ⟨v2.heap.size, 5, none⟩ = some (.slice none 0 0) := G_v3.out.cell 5
    have s_5 := G_v3.out.free 5
    go_simp
    obtain ⟨v4, h_v4⟩ : ∃ v, ((((((v3.setCell ⟨v2.heap.size, 0, none⟩ (.int .i64 n.kind)).setCell ⟨v2.heap.size, 1, none⟩ (.int .i64 n.int)).setCell ⟨v2.heap.size, 2, none⟩ (.int .i64 n.scale)).setCell ⟨v2.heap.size, 3, none⟩ (.string (str n.text))).setCell ⟨v2.heap.size, 4, none⟩ (.slice Cn n.names.length en)).setCell ⟨v2.heap.size, 5, none⟩ (.slice Ck k.len ek)) = v := ⟨_, rfl⟩
    rw [h_v4]
    clear s0 s_0 s1 s_1 s2 s_2 s3 s_3 s4 s_4 s5 s_5
    have B_v4 : Hid (Below w.heap.size w v4) := by show Below _ _ _; rw [← h_v4]; exact below_six B_v3.out (by omega)
    have G_v4 : Hid (Blk v4 v2.heap.size #[.int .i64 n.kind, .int .i64 n.int, .int .i64 n.scale, .string (str n.text), .slice Cn n.names.length en, .slice Ck k.len ek] 25) := by show Blk _ _ _ _; rw [← h_v4]; exact Blk.put6 G_v3.out
    have V_v4 := Lib.hid (show Blk v4 _ _ _ from by rw [← h_v4]; exact Blk.six_other V_v3.out (by omega))
    have X_v4 := Lib.hid (show Blk v4 _ _ _ from by rw [← h_v4]; exact Blk.six_other X_v3.out (by omega))
    have R_v4 := Lib.hid (show Blk v4 _ _ _ from by rw [← h_v4]; exact Blk.six_other R_v3.out (by omega))
    have O_v4 := Lib.hid (show OwnI v4 _ _ _ _ _ _ _ _ _ from by rw [← h_v4]; exact OwnI.six O_v3.out (by omega))
    have Q_v4 := Lib.hid (show OwnI v4 _ _ _ _ _ _ _ _ _ from by rw [← h_v4]; exact OwnI.six Q_v3.out (by omega))
    clear h_v4
    refine hK.out _ _ (⟨six_ X_v4.out, six_ V_v4.out⟩) (fun hHeld => ?_)
    clear hK K
    try simp only [Act.put, List.setIfInBounds_toArray, List.set_cons_zero, List.set_cons_succ]
    refine wpAnyL_ready (rs := [6]) (by kernel_rfl) (by simp) ?_
    refine AllReadyL.late (o := { dst := none, op := .store 25 (.tmp 5) (.tmp 33), type := 0, pos := "value.go:196", after := #[{ on := 3, ground := .data }, { on := 5, ground := .chain }, { on := 0, ground := .phase }, { on := 1, ground := .phase }, { on := 2, ground := .phase }, { on := 3, ground := .phase }, { on := 4, ground := .phase }, { on := 5, ground := .phase }], guard := none }) rfl (by kernel_rfl) (fun K hK => ?_) AllReadyL.nil
    have s0 : v4.cell? ⟨(w.heap.size + 1), 0, none⟩ = some (.int .i64 m.kind) := X_v4.out.cell 0
    have s_0 := X_v4.out.free 0
    have s1 : v4.cell? ⟨(w.heap.size + 1), 1, none⟩ = some (.int .i64 m.int) := X_v4.out.cell 1
    have s_1 := X_v4.out.free 1
    have s2 : v4.cell? ⟨(w.heap.size + 1), 2, none⟩ = some (.int .i64 m.scale) := X_v4.out.cell 2
    have s_2 := X_v4.out.free 2
    have s3 : v4.cell? ⟨(w.heap.size + 1), 3, none⟩ = some (.string (str m.text)) := X_v4.out.cell 3
    have s_3 := X_v4.out.free 3
    have s4 : v4.cell? ⟨(w.heap.size + 1), 4, none⟩ = some (.slice Bn m.names.length dn) := X_v4.out.cell 4
    have s_4 := X_v4.out.free 4
    have s5 : v4.cell? ⟨(w.heap.size + 1), 5, none⟩ = some (.slice Bk q.len dk) := X_v4.out.cell 5
    have s_5 := X_v4.out.free 5
    go_simp
    obtain ⟨v5, h_v5⟩ : ∃ v, ((((((v4.setCell ⟨(w.heap.size + 1), 0, none⟩ (.int .i64 m.kind)).setCell ⟨(w.heap.size + 1), 1, none⟩ (.int .i64 m.int)).setCell ⟨(w.heap.size + 1), 2, none⟩ (.int .i64 m.scale)).setCell ⟨(w.heap.size + 1), 3, none⟩ (.string (str m.text))).setCell ⟨(w.heap.size + 1), 4, none⟩ (.slice Dn m.names.length fn)).setCell ⟨(w.heap.size + 1), 5, none⟩ (.slice Dk q.len fk)) = v := ⟨_, rfl⟩
    rw [h_v5]
    clear s0 s_0 s1 s_1 s2 s_2 s3 s_3 s4 s_4 s5 s_5
    have B_v5 : Hid (Below w.heap.size w v5) := by show Below _ _ _; rw [← h_v5]; exact below_six B_v4.out (by omega)
    have X_v5 : Hid (Blk v5 (w.heap.size + 1) #[.int .i64 m.kind, .int .i64 m.int, .int .i64 m.scale, .string (str m.text), .slice Dn m.names.length fn, .slice Dk q.len fk] 25) := by show Blk _ _ _ _; rw [← h_v5]; exact Blk.put6 X_v4.out
    have V_v5 := Lib.hid (show Blk v5 _ _ _ from by rw [← h_v5]; exact Blk.six_other V_v4.out (by omega))
    have R_v5 := Lib.hid (show Blk v5 _ _ _ from by rw [← h_v5]; exact Blk.six_other R_v4.out (by omega))
    have G_v5 := Lib.hid (show Blk v5 _ _ _ from by rw [← h_v5]; exact Blk.six_other G_v4.out (by omega))
    have O_v5 := Lib.hid (show OwnI v5 _ _ _ _ _ _ _ _ _ from by rw [← h_v5]; exact OwnI.six O_v4.out (by omega))
    have Q_v5 := Lib.hid (show OwnI v5 _ _ _ _ _ _ _ _ _ from by rw [← h_v5]; exact OwnI.six Q_v4.out (by omega))
    clear h_v5
    have FIN : With9 w n k m q (.pointer (some ⟨v2.heap.size, 0, none⟩)) v5 := ⟨v2.heap.size, _, _, _, _, Cn, en, Ck, ek, xs, Dn, fn, Dk, fk, ys, rfl, ⟨by omega, by omega, by omega, by omega, by omega, by omega⟩, B_v5.out, G_v5.out, X_v5.out, R_v5.out, O_v5.out, Q_v5.out⟩
    refine hK.out _ _ (six_ V_v5.out) (fun hHeld => ?_)
    clear hK K
    try simp only [Act.put, List.setIfInBounds_toArray, List.set_cons_zero, List.set_cons_succ]
    refine wpAnyL_done (by kernel_rfl) ?_ _
    rotate_left 1
    refine AllReadyL.cons (o := { dst := some 10, op := .alloc 25, type := 0, pos := "value.go:196", after := #[], guard := none }) rfl (fun K hK => ?_) AllReadyL.nil
    go_simp
    obtain ⟨v6, h_v6⟩ : ∃ v, v1.alloc (.cells #[.int .i64 0, .int .i64 0, .int .i64 0, .string ⟨#[]⟩, .slice none 0 0, .slice none 0 0] 25) = v := ⟨_, rfl⟩
    rw [h_v6]
    have b_v6 : Below v1.heap.size v1 v6 := by rw [← h_v6]; exact (Below.refl _ _).alloc (Nat.le_refl _) _
    have B_v6 : Hid (Below w.heap.size w v6) := B_v1.out.trans (b_v6.mono B_v1.out.size)
    have V_v6 := Lib.hid (V_v1.out.below b_v6 V_v1.out.lt)
    have X_v6 := Lib.hid (X_v1.out.below b_v6 X_v1.out.lt)
    have R_v6 := Lib.hid (R_v1.out.below b_v6 R_v1.out.lt)
    have O_v6 := Lib.hid (O_v1.out.below b_v6)
    have z_v6 : v1.heap.size ≤ v6.heap.size := b_v6.size
    have G_v6 : Hid (Blk v6 v1.heap.size #[.int .i64 0, .int .i64 0, .int .i64 0, .string ⟨#[]⟩, .slice none 0 0, .slice none 0 0] 25) := by show Blk _ _ _ _; rw [← h_v6]; exact Blk.new _ _ _
    have hg : w.heap.size + 2 < v1.heap.size := R_v1.out.lt
    have z1_v6 : v6.heap.size = v1.heap.size + 1 := by rw [← h_v6]; simp
    clear h_v6
    have goO := O_v1.out.2.2.2.2.2.2.2
    refine hK.out _ _ (⟨six_ X_v6.out, six_ V_v6.out⟩) (fun hHeld => ?_)
    clear hK K
    try simp only [Act.put, List.setIfInBounds_toArray, List.set_cons_zero, List.set_cons_succ]
    refine wpAnyL_ready (rs := [3]) (by kernel_rfl) (by simp) ?_
    refine AllReadyL.cons (o := { dst := some 33, op := .call { callee := .value (.func 33), args := #[.tmp 32], argTypes := #[25] }, type := 25, pos := "value.go:196", after := #[{ on := 2, ground := .data }, { on := 1, ground := .chain }], guard := none }) rfl (fun K hK => ?_) AllReadyL.nil
    go_simp
    refine ((unhide HO2) v6 (HV1.out.upto B_v6.out)).mono ?_
    rintro e v7 hret
    obtain ⟨Dn, fn, Dk, fk, ys, rfl, o_v7, b_v7⟩ := hret.ownI
    clear hret
    unfold ncells
    have B_v7 : Hid (Below w.heap.size w v7) := B_v6.out.trans (b_v7.mono B_v6.out.size)
    have V_v7 := Lib.hid (V_v6.out.below b_v7 V_v6.out.lt)
    have X_v7 := Lib.hid (X_v6.out.below b_v7 X_v6.out.lt)
    have R_v7 := Lib.hid (R_v6.out.below b_v7 R_v6.out.lt)
    have G_v7 := Lib.hid (G_v6.out.below b_v7 G_v6.out.lt)
    have O_v7 := Lib.hid (O_v6.out.below b_v7)
    have z_v7 : v6.heap.size ≤ v7.heap.size := b_v7.size
    have Q_v7 := Lib.hid o_v7
    clear o_v7
    go_wp2_with fail
    refine hK.out _ _ (⟨six_ X_v7.out, six_ V_v7.out⟩) (fun hHeld => ?_)
    clear hK K
    try simp only [Act.put, List.setIfInBounds_toArray, List.set_cons_zero, List.set_cons_succ]
    refine wpAnyL_ready (rs := [5]) (by kernel_rfl) (by simp) ?_
    refine AllReadyL.cons (o := { dst := none, op := .store 25 (.tmp 10) (.tmp 31), type := 0, pos := "value.go:196", after := #[{ on := 4, ground := .data }, { on := 1, ground := .data }, { on := 3, ground := .chain }, { on := 0, ground := .phase }, { on := 1, ground := .phase }, { on := 2, ground := .textOnly Go.Departure.lateStores }, { on := 3, ground := .textOnly Go.Departure.lateStoresUnsure }, { on := 4, ground := .phase }], guard := none }) rfl (fun K hK => ?_) AllReadyL.nil
    have s0 : v7.cell? ⟨v1.heap.size, 0, none⟩ = some (.int .i64 0) := G_v7.out.cell 0
    have s_0 := G_v7.out.free 0
    have s1 : v7.cell? ⟨v1.heap.size, 1, none⟩ = some (.int .i64 0) := G_v7.out.cell 1
    have s_1 := G_v7.out.free 1
    have s2 : v7.cell? ⟨v1.heap.size, 2, none⟩ = some (.int .i64 0) := G_v7.out.cell 2
    have s_2 := G_v7.out.free 2
    have s3 : v7.cell? ⟨v1.heap.size, 3, none⟩ = some (.string ⟨#[]⟩) := G_v7.out.cell 3
    have s_3 := G_v7.out.free 3
    have s4 : v7.cell? ⟨v1.heap.size, 4, none⟩ = some (.slice none 0 0) := G_v7.out.cell 4
    have s_4 := G_v7.out.free 4
    have s5 : v7.cell? ⟨v1.heap.size, 5, none⟩ = some (.slice none 0 0) := G_v7.out.cell 5
    have s_5 := G_v7.out.free 5
    go_simp
    obtain ⟨v8, h_v8⟩ : ∃ v, ((((((v7.setCell ⟨v1.heap.size, 0, none⟩ (.int .i64 n.kind)).setCell ⟨v1.heap.size, 1, none⟩ (.int .i64 n.int)).setCell ⟨v1.heap.size, 2, none⟩ (.int .i64 n.scale)).setCell ⟨v1.heap.size, 3, none⟩ (.string (str n.text))).setCell ⟨v1.heap.size, 4, none⟩ (.slice Cn n.names.length en)).setCell ⟨v1.heap.size, 5, none⟩ (.slice Ck k.len ek)) = v := ⟨_, rfl⟩
    rw [h_v8]
    clear s0 s_0 s1 s_1 s2 s_2 s3 s_3 s4 s_4 s5 s_5
    have B_v8 : Hid (Below w.heap.size w v8) := by show Below _ _ _; rw [← h_v8]; exact below_six B_v7.out (by omega)
    have G_v8 : Hid (Blk v8 v1.heap.size #[.int .i64 n.kind, .int .i64 n.int, .int .i64 n.scale, .string (str n.text), .slice Cn n.names.length en, .slice Ck k.len ek] 25) := by show Blk _ _ _ _; rw [← h_v8]; exact Blk.put6 G_v7.out
    have V_v8 := Lib.hid (show Blk v8 _ _ _ from by rw [← h_v8]; exact Blk.six_other V_v7.out (by omega))
    have X_v8 := Lib.hid (show Blk v8 _ _ _ from by rw [← h_v8]; exact Blk.six_other X_v7.out (by omega))
    have R_v8 := Lib.hid (show Blk v8 _ _ _ from by rw [← h_v8]; exact Blk.six_other R_v7.out (by omega))
    have O_v8 := Lib.hid (show OwnI v8 _ _ _ _ _ _ _ _ _ from by rw [← h_v8]; exact OwnI.six O_v7.out (by omega))
    have Q_v8 := Lib.hid (show OwnI v8 _ _ _ _ _ _ _ _ _ from by rw [← h_v8]; exact OwnI.six Q_v7.out (by omega))
    clear h_v8
    refine hK.out _ _ (⟨six_ X_v8.out, six_ V_v8.out⟩) (fun hHeld => ?_)
    clear hK K
    try simp only [Act.put, List.setIfInBounds_toArray, List.set_cons_zero, List.set_cons_succ]
    refine wpAnyL_ready (rs := [6]) (by kernel_rfl) (by simp) ?_
    refine AllReadyL.late (o := { dst := none, op := .store 25 (.tmp 5) (.tmp 33), type := 0, pos := "value.go:196", after := #[{ on := 3, ground := .data }, { on := 5, ground := .chain }, { on := 0, ground := .phase }, { on := 1, ground := .phase }, { on := 2, ground := .phase }, { on := 3, ground := .phase }, { on := 4, ground := .phase }, { on := 5, ground := .phase }], guard := none }) rfl (by kernel_rfl) (fun K hK => ?_) AllReadyL.nil
    have s0 : v8.cell? ⟨(w.heap.size + 1), 0, none⟩ = some (.int .i64 m.kind) := X_v8.out.cell 0
    have s_0 := X_v8.out.free 0
    have s1 : v8.cell? ⟨(w.heap.size + 1), 1, none⟩ = some (.int .i64 m.int) := X_v8.out.cell 1
    have s_1 := X_v8.out.free 1
    have s2 : v8.cell? ⟨(w.heap.size + 1), 2, none⟩ = some (.int .i64 m.scale) := X_v8.out.cell 2
    have s_2 := X_v8.out.free 2
    have s3 : v8.cell? ⟨(w.heap.size + 1), 3, none⟩ = some (.string (str m.text)) := X_v8.out.cell 3
    have s_3 := X_v8.out.free 3
    have s4 : v8.cell? ⟨(w.heap.size + 1), 4, none⟩ = some (.slice Bn m.names.length dn) := X_v8.out.cell 4
    have s_4 := X_v8.out.free 4
    have s5 : v8.cell? ⟨(w.heap.size + 1), 5, none⟩ = some (.slice Bk q.len dk) := X_v8.out.cell 5
    have s_5 := X_v8.out.free 5
    go_simp
    obtain ⟨v9, h_v9⟩ : ∃ v, ((((((v8.setCell ⟨(w.heap.size + 1), 0, none⟩ (.int .i64 m.kind)).setCell ⟨(w.heap.size + 1), 1, none⟩ (.int .i64 m.int)).setCell ⟨(w.heap.size + 1), 2, none⟩ (.int .i64 m.scale)).setCell ⟨(w.heap.size + 1), 3, none⟩ (.string (str m.text))).setCell ⟨(w.heap.size + 1), 4, none⟩ (.slice Dn m.names.length fn)).setCell ⟨(w.heap.size + 1), 5, none⟩ (.slice Dk q.len fk)) = v := ⟨_, rfl⟩
    rw [h_v9]
    clear s0 s_0 s1 s_1 s2 s_2 s3 s_3 s4 s_4 s5 s_5
    have B_v9 : Hid (Below w.heap.size w v9) := by show Below _ _ _; rw [← h_v9]; exact below_six B_v8.out (by omega)
    have X_v9 : Hid (Blk v9 (w.heap.size + 1) #[.int .i64 m.kind, .int .i64 m.int, .int .i64 m.scale, .string (str m.text), .slice Dn m.names.length fn, .slice Dk q.len fk] 25) := by show Blk _ _ _ _; rw [← h_v9]; exact Blk.put6 X_v8.out
    have V_v9 := Lib.hid (show Blk v9 _ _ _ from by rw [← h_v9]; exact Blk.six_other V_v8.out (by omega))
    have R_v9 := Lib.hid (show Blk v9 _ _ _ from by rw [← h_v9]; exact Blk.six_other R_v8.out (by omega))
    have G_v9 := Lib.hid (show Blk v9 _ _ _ from by rw [← h_v9]; exact Blk.six_other G_v8.out (by omega))
    have O_v9 := Lib.hid (show OwnI v9 _ _ _ _ _ _ _ _ _ from by rw [← h_v9]; exact OwnI.six O_v8.out (by omega))
    have Q_v9 := Lib.hid (show OwnI v9 _ _ _ _ _ _ _ _ _ from by rw [← h_v9]; exact OwnI.six Q_v8.out (by omega))
    clear h_v9
    have FIN : With9 w n k m q (.pointer (some ⟨v1.heap.size, 0, none⟩)) v9 := ⟨v1.heap.size, _, _, _, _, Cn, en, Ck, ek, xs, Dn, fn, Dk, fk, ys, rfl, ⟨by omega, by omega, by omega, by omega, by omega, by omega⟩, B_v9.out, G_v9.out, X_v9.out, R_v9.out, O_v9.out, Q_v9.out⟩
    refine hK.out _ _ (six_ V_v9.out) (fun hHeld => ?_)
    clear hK K
    try simp only [Act.put, List.setIfInBounds_toArray, List.set_cons_zero, List.set_cons_succ]
    refine wpAnyL_done (by kernel_rfl) ?_ _
    rotate_left 1
    refine AllReadyL.cons (o := { dst := some 10, op := .alloc 25, type := 0, pos := "value.go:196", after := #[], guard := none }) rfl (fun K hK => ?_) AllReadyL.nil
    go_simp
    obtain ⟨v10, h_v10⟩ : ∃ v, v0.alloc (.cells #[.int .i64 0, .int .i64 0, .int .i64 0, .string ⟨#[]⟩, .slice none 0 0, .slice none 0 0] 25) = v := ⟨_, rfl⟩
    rw [h_v10]
    have b_v10 : Below v0.heap.size v0 v10 := by rw [← h_v10]; exact (Below.refl _ _).alloc (Nat.le_refl _) _
    have B_v10 : Hid (Below w.heap.size w v10) := B_v0.out.trans (b_v10.mono B_v0.out.size)
    have V_v10 := Lib.hid (V_v0.out.below b_v10 V_v0.out.lt)
    have X_v10 := Lib.hid (X_v0.out.below b_v10 X_v0.out.lt)
    have R_v10 := Lib.hid (R_v0.out.below b_v10 R_v0.out.lt)
    have z_v10 : v0.heap.size ≤ v10.heap.size := b_v10.size
    have G_v10 : Hid (Blk v10 v0.heap.size #[.int .i64 0, .int .i64 0, .int .i64 0, .string ⟨#[]⟩, .slice none 0 0, .slice none 0 0] 25) := by show Blk _ _ _ _; rw [← h_v10]; exact Blk.new _ _ _
    have hg : w.heap.size + 2 < v0.heap.size := R_v0.out.lt
    have z1_v10 : v10.heap.size = v0.heap.size + 1 := by rw [← h_v10]; simp
    clear h_v10
    refine hK.out _ _ (⟨six_ X_v10.out, six_ V_v10.out⟩) (fun hHeld => ?_)
    clear hK K
    try simp only [Act.put, List.setIfInBounds_toArray, List.set_cons_zero, List.set_cons_succ]
    refine wpAnyL_ready (rs := [1]) (by kernel_rfl) (by simp) ?_
    refine AllReadyL.cons (o := { dst := some 31, op := .call { callee := .value (.func 33), args := #[.tmp 30], argTypes := #[25] }, type := 25, pos := "value.go:196", after := #[{ on := 0, ground := .data }], guard := none }) rfl (fun K hK => ?_) AllReadyL.nil
    go_simp
    refine ((unhide HO1) v10 (HV0.out.upto B_v10.out)).mono ?_
    rintro e v11 hret
    obtain ⟨Cn, en, Ck, ek, xs, rfl, o_v11, b_v11⟩ := hret.ownI
    clear hret
    unfold ncells
    have B_v11 : Hid (Below w.heap.size w v11) := B_v10.out.trans (b_v11.mono B_v10.out.size)
    have V_v11 := Lib.hid (V_v10.out.below b_v11 V_v10.out.lt)
    have X_v11 := Lib.hid (X_v10.out.below b_v11 X_v10.out.lt)
    have R_v11 := Lib.hid (R_v10.out.below b_v11 R_v10.out.lt)
    have G_v11 := Lib.hid (G_v10.out.below b_v11 G_v10.out.lt)
    have z_v11 : v10.heap.size ≤ v11.heap.size := b_v11.size
    have O_v11 := Lib.hid o_v11
    clear o_v11
    go_wp2_with fail
    refine hK.out _ _ (⟨six_ X_v11.out, six_ V_v11.out⟩) (fun hHeld => ?_)
    clear hK K
    try simp only [Act.put, List.setIfInBounds_toArray, List.set_cons_zero, List.set_cons_succ]
    refine wpAnyL_ready (rs := [3]) (by kernel_rfl) (by simp) ?_
    refine AllReadyL.cons (o := { dst := some 33, op := .call { callee := .value (.func 33), args := #[.tmp 32], argTypes := #[25] }, type := 25, pos := "value.go:196", after := #[{ on := 2, ground := .data }, { on := 1, ground := .chain }], guard := none }) rfl (fun K hK => ?_) AllReadyL.nil
    go_simp
    refine ((unhide HO2) v11 (HV1.out.upto B_v11.out)).mono ?_
    rintro e v12 hret
    obtain ⟨Dn, fn, Dk, fk, ys, rfl, o_v12, b_v12⟩ := hret.ownI
    clear hret
    unfold ncells
    have B_v12 : Hid (Below w.heap.size w v12) := B_v11.out.trans (b_v12.mono B_v11.out.size)
    have V_v12 := Lib.hid (V_v11.out.below b_v12 V_v11.out.lt)
    have X_v12 := Lib.hid (X_v11.out.below b_v12 X_v11.out.lt)
    have R_v12 := Lib.hid (R_v11.out.below b_v12 R_v11.out.lt)
    have G_v12 := Lib.hid (G_v11.out.below b_v12 G_v11.out.lt)
    have O_v12 := Lib.hid (O_v11.out.below b_v12)
    have z_v12 : v11.heap.size ≤ v12.heap.size := b_v12.size
    have Q_v12 := Lib.hid o_v12
    clear o_v12
    go_wp2_with fail
    refine hK.out _ _ (⟨six_ X_v12.out, six_ V_v12.out⟩) (fun hHeld => ?_)
    clear hK K
    try simp only [Act.put, List.setIfInBounds_toArray, List.set_cons_zero, List.set_cons_succ]
    refine wpAnyL_ready (rs := [5]) (by kernel_rfl) (by simp) ?_
    refine AllReadyL.cons (o := { dst := none, op := .store 25 (.tmp 10) (.tmp 31), type := 0, pos := "value.go:196", after := #[{ on := 4, ground := .data }, { on := 1, ground := .data }, { on := 3, ground := .chain }, { on := 0, ground := .phase }, { on := 1, ground := .phase }, { on := 2, ground := .textOnly Go.Departure.lateStores }, { on := 3, ground := .textOnly Go.Departure.lateStoresUnsure }, { on := 4, ground := .phase }], guard := none }) rfl (fun K hK => ?_) AllReadyL.nil
    have s0 : v12.cell? ⟨v0.heap.size, 0, none⟩ = some (.int .i64 0) := G_v12.out.cell 0
    have s_0 := G_v12.out.free 0
    have s1 : v12.cell? ⟨v0.heap.size, 1, none⟩ = some (.int .i64 0) := G_v12.out.cell 1
    have s_1 := G_v12.out.free 1
    have s2 : v12.cell? ⟨v0.heap.size, 2, none⟩ = some (.int .i64 0) := G_v12.out.cell 2
    have s_2 := G_v12.out.free 2
    have s3 : v12.cell? ⟨v0.heap.size, 3, none⟩ = some (.string ⟨#[]⟩) := G_v12.out.cell 3
    have s_3 := G_v12.out.free 3
    have s4 : v12.cell? ⟨v0.heap.size, 4, none⟩ = some (.slice none 0 0) := G_v12.out.cell 4
    have s_4 := G_v12.out.free 4
    have s5 : v12.cell? ⟨v0.heap.size, 5, none⟩ = some (.slice none 0 0) := G_v12.out.cell 5
    have s_5 := G_v12.out.free 5
    go_simp
    obtain ⟨v13, h_v13⟩ : ∃ v, ((((((v12.setCell ⟨v0.heap.size, 0, none⟩ (.int .i64 n.kind)).setCell ⟨v0.heap.size, 1, none⟩ (.int .i64 n.int)).setCell ⟨v0.heap.size, 2, none⟩ (.int .i64 n.scale)).setCell ⟨v0.heap.size, 3, none⟩ (.string (str n.text))).setCell ⟨v0.heap.size, 4, none⟩ (.slice Cn n.names.length en)).setCell ⟨v0.heap.size, 5, none⟩ (.slice Ck k.len ek)) = v := ⟨_, rfl⟩
    rw [h_v13]
    clear s0 s_0 s1 s_1 s2 s_2 s3 s_3 s4 s_4 s5 s_5
    have B_v13 : Hid (Below w.heap.size w v13) := by show Below _ _ _; rw [← h_v13]; exact below_six B_v12.out (by omega)
    have G_v13 : Hid (Blk v13 v0.heap.size #[.int .i64 n.kind, .int .i64 n.int, .int .i64 n.scale, .string (str n.text), .slice Cn n.names.length en, .slice Ck k.len ek] 25) := by show Blk _ _ _ _; rw [← h_v13]; exact Blk.put6 G_v12.out
    have V_v13 := Lib.hid (show Blk v13 _ _ _ from by rw [← h_v13]; exact Blk.six_other V_v12.out (by omega))
    have X_v13 := Lib.hid (show Blk v13 _ _ _ from by rw [← h_v13]; exact Blk.six_other X_v12.out (by omega))
    have R_v13 := Lib.hid (show Blk v13 _ _ _ from by rw [← h_v13]; exact Blk.six_other R_v12.out (by omega))
    have O_v13 := Lib.hid (show OwnI v13 _ _ _ _ _ _ _ _ _ from by rw [← h_v13]; exact OwnI.six O_v12.out (by omega))
    have Q_v13 := Lib.hid (show OwnI v13 _ _ _ _ _ _ _ _ _ from by rw [← h_v13]; exact OwnI.six Q_v12.out (by omega))
    clear h_v13
    refine hK.out _ _ (⟨six_ X_v13.out, six_ V_v13.out⟩) (fun hHeld => ?_)
    clear hK K
    try simp only [Act.put, List.setIfInBounds_toArray, List.set_cons_zero, List.set_cons_succ]
    refine wpAnyL_ready (rs := [6]) (by kernel_rfl) (by simp) ?_
    refine AllReadyL.late (o := { dst := none, op := .store 25 (.tmp 5) (.tmp 33), type := 0, pos := "value.go:196", after := #[{ on := 3, ground := .data }, { on := 5, ground := .chain }, { on := 0, ground := .phase }, { on := 1, ground := .phase }, { on := 2, ground := .phase }, { on := 3, ground := .phase }, { on := 4, ground := .phase }, { on := 5, ground := .phase }], guard := none }) rfl (by kernel_rfl) (fun K hK => ?_) AllReadyL.nil
    have s0 : v13.cell? ⟨(w.heap.size + 1), 0, none⟩ = some (.int .i64 m.kind) := X_v13.out.cell 0
    have s_0 := X_v13.out.free 0
    have s1 : v13.cell? ⟨(w.heap.size + 1), 1, none⟩ = some (.int .i64 m.int) := X_v13.out.cell 1
    have s_1 := X_v13.out.free 1
    have s2 : v13.cell? ⟨(w.heap.size + 1), 2, none⟩ = some (.int .i64 m.scale) := X_v13.out.cell 2
    have s_2 := X_v13.out.free 2
    have s3 : v13.cell? ⟨(w.heap.size + 1), 3, none⟩ = some (.string (str m.text)) := X_v13.out.cell 3
    have s_3 := X_v13.out.free 3
    have s4 : v13.cell? ⟨(w.heap.size + 1), 4, none⟩ = some (.slice Bn m.names.length dn) := X_v13.out.cell 4
    have s_4 := X_v13.out.free 4
    have s5 : v13.cell? ⟨(w.heap.size + 1), 5, none⟩ = some (.slice Bk q.len dk) := X_v13.out.cell 5
    have s_5 := X_v13.out.free 5
    go_simp
    obtain ⟨v14, h_v14⟩ : ∃ v, ((((((v13.setCell ⟨(w.heap.size + 1), 0, none⟩ (.int .i64 m.kind)).setCell ⟨(w.heap.size + 1), 1, none⟩ (.int .i64 m.int)).setCell ⟨(w.heap.size + 1), 2, none⟩ (.int .i64 m.scale)).setCell ⟨(w.heap.size + 1), 3, none⟩ (.string (str m.text))).setCell ⟨(w.heap.size + 1), 4, none⟩ (.slice Dn m.names.length fn)).setCell ⟨(w.heap.size + 1), 5, none⟩ (.slice Dk q.len fk)) = v := ⟨_, rfl⟩
    rw [h_v14]
    clear s0 s_0 s1 s_1 s2 s_2 s3 s_3 s4 s_4 s5 s_5
    have B_v14 : Hid (Below w.heap.size w v14) := by show Below _ _ _; rw [← h_v14]; exact below_six B_v13.out (by omega)
    have X_v14 : Hid (Blk v14 (w.heap.size + 1) #[.int .i64 m.kind, .int .i64 m.int, .int .i64 m.scale, .string (str m.text), .slice Dn m.names.length fn, .slice Dk q.len fk] 25) := by show Blk _ _ _ _; rw [← h_v14]; exact Blk.put6 X_v13.out
    have V_v14 := Lib.hid (show Blk v14 _ _ _ from by rw [← h_v14]; exact Blk.six_other V_v13.out (by omega))
    have R_v14 := Lib.hid (show Blk v14 _ _ _ from by rw [← h_v14]; exact Blk.six_other R_v13.out (by omega))
    have G_v14 := Lib.hid (show Blk v14 _ _ _ from by rw [← h_v14]; exact Blk.six_other G_v13.out (by omega))
    have O_v14 := Lib.hid (show OwnI v14 _ _ _ _ _ _ _ _ _ from by rw [← h_v14]; exact OwnI.six O_v13.out (by omega))
    have Q_v14 := Lib.hid (show OwnI v14 _ _ _ _ _ _ _ _ _ from by rw [← h_v14]; exact OwnI.six Q_v13.out (by omega))
    clear h_v14
    have FIN : With9 w n k m q (.pointer (some ⟨v0.heap.size, 0, none⟩)) v14 := ⟨v0.heap.size, _, _, _, _, Cn, en, Ck, ek, xs, Dn, fn, Dk, fk, ys, rfl, ⟨by omega, by omega, by omega, by omega, by omega, by omega⟩, B_v14.out, G_v14.out, X_v14.out, R_v14.out, O_v14.out, Q_v14.out⟩
    refine hK.out _ _ (six_ V_v14.out) (fun hHeld => ?_)
    clear hK K
    try simp only [Act.put, List.setIfInBounds_toArray, List.set_cons_zero, List.set_cons_succ]
    refine wpAnyL_done (by kernel_rfl) ?_ _
    all_goals (
      go_wp2_with fail
      go_meet
      exact FIN)
  case rest =>
    clear B_W V_W X_W R_W HC1 HC2 HO1 HO2 HV0 HV1 hs1
    obtain ⟨g, a, b, c, d, Cn, en, Ck, ek, xs, Dn, fn, Dk, fk, ys, rfl, hgs, B, G, X, R, O, Q⟩ := hcut
    have HBS : Hid (Calls Try.prog 34 #[.slice Cn n.names.length en, .string (str x)] wc (fun e w' => e = .returned (.tuple #[.int .i64 (i : Int), .bool true]) ∧ ∃ dr, w' = wc.drewN dr)) := by
      have h := bsearch_any Cn n.names.length en n.names x wc (Rd.of_own O.2.1) O.1.2.1.2.2
      rw [HBI.out, HFO.out] at h
      exact h
    clear HBI HFO
    unfold ncells at G X
    have G0_ := Lib.hid G
    have c4 : wc.cell? ⟨g, 4, none⟩ = some (.slice Cn n.names.length en) := G0_.out.cell 4
    clear G
    have HG := Lib.hid hgs
    clear hgs
    go_wp2_with fail
    refine HBS.out.mono ?_
    rintro e wd ⟨rfl, dr, hdr⟩
    clear c4 HBS
    have Bd : Hid (Below w.heap.size w wd) := by show Below _ _ _; rw [hdr]; exact below_drewN B _
    have Gd : Hid (Blk wd g #[.int .i64 n.kind, .int .i64 n.int, .int .i64 n.scale, .string (str n.text), .slice Cn n.names.length en, .slice Ck k.len ek] 25) := by show Blk _ _ _ _; rw [hdr]; exact G0_.out
    have Xd : Hid (Blk wd (w.heap.size + 1) #[.int .i64 m.kind, .int .i64 m.int, .int .i64 m.scale, .string (str m.text), .slice Dn m.names.length fn, .slice Dk q.len fk] 25) := by show Blk _ _ _ _; rw [hdr]; exact X
    have Rd : Hid (Blk wd (w.heap.size + 2) #[.int .i64 0, .int .i64 0, .int .i64 0, .string ⟨#[]⟩, .slice none 0 0, .slice none 0 0] 25) := by show Blk _ _ _ _; rw [hdr]; exact R
    have Od : Hid (OwnI wd a b n k Cn en Ck ek xs) := by show OwnI _ _ _ _ _ _ _ _ _ _; rw [hdr]; exact O.keep (fun _ _ _ => rfl) (Nat.le_refl _)
    have Qd : Hid (OwnI wd c d m q Dn fn Dk fk ys) := by show OwnI _ _ _ _ _ _ _ _ _ _; rw [hdr]; exact Q.keep (fun _ _ _ => rfl) (Nat.le_refl _)
    clear hdr B G0_ X R O Q
    obtain ⟨gk, cur, rfl, hga, hgb, hcur, hcm, hcs, hnc, htk⟩ := Od.out.krow (i := i) (by have := HLE.out.1; have := HS.out.1; omega)
    have hik : i < k.len := by have := HLE.out.1; have := HS.out.1; omega
    have HF := Lib.hid (hit14 HG.out Bd.out Gd.out Xd.out Rd.out Od.out Qd.out hik)
    have c5 : wd.cell? ⟨g, 5, none⟩ = some (.slice (some ⟨gk, 0, none⟩) k.len ek) := Gd.out.cell 5
    have hl6 : i * 6 + 6 ≤ cur.size := by omega
    have u0 := Blk.cell hcur (i * 6)
    have u_0 := Blk.free hcur (i * 6)
    have u1 := Blk.cell hcur (i * 6 + 1)
    have u_1 := Blk.free hcur (i * 6 + 1)
    have u2 := Blk.cell hcur (i * 6 + 2)
    have u_2 := Blk.free hcur (i * 6 + 2)
    have u3 := Blk.cell hcur (i * 6 + 3)
    have u_3 := Blk.free hcur (i * 6 + 3)
    have u4 := Blk.cell hcur (i * 6 + 4)
    have u_4 := Blk.free hcur (i * 6 + 4)
    have u5 := Blk.cell hcur (i * 6 + 5)
    have u_5 := Blk.free hcur (i * 6 + 5)
    rw [Array.getElem?_eq_getElem (by omega)] at u0 u1 u2 u3 u4 u5
    generalize cur[i * 6] = r0 at *
    generalize cur[i * 6 + 1] = r1 at *
    generalize cur[i * 6 + 2] = r2 at *
    generalize cur[i * 6 + 3] = r3 at *
    generalize cur[i * 6 + 4] = r4 at *
    generalize cur[i * 6 + 5] = r5 at *
    have y0 : wd.cell? ⟨(w.heap.size + 1), 0, none⟩ = some (.int .i64 m.kind) := Xd.out.cell 0
    have y1 : wd.cell? ⟨(w.heap.size + 1), 1, none⟩ = some (.int .i64 m.int) := Xd.out.cell 1
    have y2 : wd.cell? ⟨(w.heap.size + 1), 2, none⟩ = some (.int .i64 m.scale) := Xd.out.cell 2
    have y3 : wd.cell? ⟨(w.heap.size + 1), 3, none⟩ = some (.string (str m.text)) := Xd.out.cell 3
    have y4 : wd.cell? ⟨(w.heap.size + 1), 4, none⟩ = some (.slice Dn m.names.length fn) := Xd.out.cell 4
    have y5 : wd.cell? ⟨(w.heap.size + 1), 5, none⟩ = some (.slice Dk q.len fk) := Xd.out.cell 5
    have HIK := Lib.hid hik
    clear hcur hcm hcs hnc htk hl6 hga hgb hik
    have hik : i < k.len := HIK.out
    go_upto_region 14 with fail
    clear c5 u0 u_0 y0 u1 u_1 y1 u2 u_2 y2 u3 u_3 y3 u4 u_4 y4 u5 u_5 y5
    generalize hWf : ((((((wd.setCell ⟨gk, i * 6, none⟩ (.int .i64 m.kind)).setCell ⟨gk, i * 6 + 1, none⟩ (.int .i64 m.int)).setCell ⟨gk, i * 6 + 2, none⟩ (.int .i64 m.scale)).setCell ⟨gk, i * 6 + 3, none⟩ (.string (str m.text))).setCell ⟨gk, i * 6 + 4, none⟩ (.slice Dn m.names.length fn)).setCell ⟨gk, i * 6 + 5, none⟩ (.slice Dk q.len fk)) = wf at *
    clear hWf
    have HF : Hid (With14 w N KK (.pointer (some ⟨g, 0, none⟩)) wf) := by show With14 _ _ _ _ _; rw [HNE.out, HKE.out]; exact HF.out
    clear HG Bd Gd Xd Rd Od Qd HLE HNE HKE HS HH H9 HOK
    obtain ⟨g', Fn, hn, Fk, hk, dz, e, hg3, Bf, Gf, Rf, Vf, Df⟩ := HF.out
    obtain rfl : g = g' := by simpa using e
    clear HF e
    unfold ncells at Gf Vf Df
    have BF := Lib.hid Bf
    have GF := Lib.hid Gf
    have RF := Lib.hid Rf
    have VF := Lib.hid Vf
    have DF := Lib.hid Df
    clear Bf Gf Rf Vf Df
    have HC : Hid (Calls Try.prog 11 #[.agg #[.int .i64 N.kind, .int .i64 N.int, .int .i64 N.scale, .string (str N.text), .slice Fn N.names.length hn, .slice Fk KK.len hk]] wf (Ret (.int .i64 (chk N KK 1 : Int)) wf)) := Check_any N KK _ wf (VF.out.keep (fun _ _ => rfl) (fun i hi => hi.2))
    have x0 : wf.cell? ⟨g, 0, none⟩ = some (.int .i64 N.kind) := GF.out.cell 0
    have x1 : wf.cell? ⟨g, 1, none⟩ = some (.int .i64 N.int) := GF.out.cell 1
    have x2 : wf.cell? ⟨g, 2, none⟩ = some (.int .i64 N.scale) := GF.out.cell 2
    have x3 : wf.cell? ⟨g, 3, none⟩ = some (.string (str N.text)) := GF.out.cell 3
    have x4 : wf.cell? ⟨g, 4, none⟩ = some (.slice Fn N.names.length hn) := GF.out.cell 4
    have x5 : wf.cell? ⟨g, 5, none⟩ = some (.slice Fk KK.len hk) := GF.out.cell 5
    generalize chk N KK 1 = C at *
    go_wp2_with fail
    refine HC.out.mono ?_
    rintro e wg ⟨rfl, bg⟩
    clear x0 x1 x2 x3 x4 x5
    have BG := Lib.hid (BF.out.trans (bg.mono BF.out.size))
    have GG := Lib.hid (GF.out.below bg GF.out.lt)
    have RG := Lib.hid (RF.out.below bg RF.out.lt)
    have VG := Lib.hid (VF.out.keep (w' := wg) (S' := Fresh (w.heap.size + 3) wg.heap.size) (fun i hi => bg.block i hi.2) (fun i hi => ⟨hi.1, Nat.lt_of_lt_of_le hi.2 bg.size⟩))
    have DG := Lib.hid (Dp.keep (w' := wg) (S' := Fresh (w.heap.size + 3) wg.heap.size) (fun i hi => bg.block i hi.2) (fun i hi => ⟨hi.1, Nat.lt_of_lt_of_le hi.2 bg.size⟩) _ _ DF.out)
    clear bg HC BF GF RF VF DF
    have r0 : wg.cell? ⟨(w.heap.size + 2), 0, none⟩ = some (.int .i64 0) := RG.out.cell 0
    have r1 : wg.cell? ⟨(w.heap.size + 2), 1, none⟩ = some (.int .i64 0) := RG.out.cell 1
    have r2 : wg.cell? ⟨(w.heap.size + 2), 2, none⟩ = some (.int .i64 0) := RG.out.cell 2
    have r3 : wg.cell? ⟨(w.heap.size + 2), 3, none⟩ = some (.string ⟨#[]⟩) := RG.out.cell 3
    have r4 : wg.cell? ⟨(w.heap.size + 2), 4, none⟩ = some (.slice none 0 0) := RG.out.cell 4
    have r5 : wg.cell? ⟨(w.heap.size + 2), 5, none⟩ = some (.slice none 0 0) := RG.out.cell 5
    have r_0 := RG.out.free 0
    have r_1 := RG.out.free 1
    have r_2 := RG.out.free 2
    have r_3 := RG.out.free 3
    have r_4 := RG.out.free 4
    have r_5 := RG.out.free 5
    by_cases hC : C = 0
    · subst hC
      have HRES := HRES.out
      rw [if_neg (by omega)] at HRES
      have HRES := Lib.hid HRES
      have x0 : wg.cell? ⟨g, 0, none⟩ = some (.int .i64 N.kind) := GG.out.cell 0
      have x1 : wg.cell? ⟨g, 1, none⟩ = some (.int .i64 N.int) := GG.out.cell 1
      have x2 : wg.cell? ⟨g, 2, none⟩ = some (.int .i64 N.scale) := GG.out.cell 2
      have x3 : wg.cell? ⟨g, 3, none⟩ = some (.string (str N.text)) := GG.out.cell 3
      have x4 : wg.cell? ⟨g, 4, none⟩ = some (.slice Fn N.names.length hn) := GG.out.cell 4
      have x5 : wg.cell? ⟨g, 5, none⟩ = some (.slice Fk KK.len hk) := GG.out.cell 5
      go_wp2_with fail
      refine bodyPost_ret (results_vb Try.results21 rfl rfl (Blk.put6 RG.out)) rfl ?_
      rw [HRES.out]
      have hS : ∀ i, Fresh (w.heap.size + 3) wg.heap.size i → i ≠ w.heap.size + 2 := fun i hi => by have := hi.1; omega
      refine ⟨_, dz, rfl, VG.out.keep (fun i hi => ?_) (fun i hi => ⟨by have := hi.1; omega, by simpa using hi.2⟩), Dp.keep (fun i hi => ?_) (fun i hi => ⟨by have := hi.1; omega, by simpa using hi.2⟩) _ _ DG.out, below_six BG.out (by omega)⟩
      · repeat rw [Below.heap_setCell _ _ _ _ (hS i hi)]
      · repeat rw [Below.heap_setCell _ _ _ _ (hS i hi)]
    · have HRES := HRES.out
      rw [if_pos hC] at HRES
      have HRES := Lib.hid HRES
      have q1 : ((C : Int) == 0) = false := by rw [beq_eq_false_iff_ne]; omega
      clear hC
      go_wp2_with fail
      refine bodyPost_ret (results_vb Try.results21 rfl rfl (Blk.put6 RG.out)) rfl ?_
      rw [HRES.out]
      exact ⟨_, 1, rfl, zero_vo _ _, blank_dp _ _ 0 0, below_six BG.out (by omega)⟩

end Go.Proofs.Ytfcbcbpnlnkpcaa

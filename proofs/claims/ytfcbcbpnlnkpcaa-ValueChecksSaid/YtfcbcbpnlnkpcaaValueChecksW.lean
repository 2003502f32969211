/- ValueChecks: the walk. -/
import Derived.Test.YtfcbcbpnlnkpcaaCloneV
import Derived.Test.YtfcbcbpnlnkpcaaSizes
import Derived.Test.YtfcbcbpnlnkpcaaKnown5
import Derived.Deep.RegionHeld3
namespace Go.Proofs.Ytfcbcbpnlnkpcaa
set_option linter.all false
open Go.RowKit
/-- A value laid into a list of one. -/
theorem kids_one {w : World} {S : Nat → Prop} {n : Nd} {k : F} {An : Option Addr} {cn : Nat} {Ak : Option Addr} {ck : Nat} (h : Vo w S n k (.agg (ncells n An cn Ak k.len ck).toArray)) (hS : ∀ b, S b → b < w.heap.size) (T : TypeId) :
    Kids (w.alloc (.cells (ncells n An cn Ak k.len ck).toArray T)) (· < w.heap.size + 1) (some ⟨w.heap.size, 0, none⟩) (.cons n k .nil) := by
  obtain ⟨Bn, dn, Bk, dk, e, hok, h1, h2, hn, ks, hr, hk⟩ := h
  have hbl : ∀ b, S b → (w.alloc (.cells (ncells n An cn Ak k.len ck).toArray T)).heap[b]? = w.heap[b]? := fun b hb => ((Below.refl w.heap.size w).alloc (Nat.le_refl _) _).block b (hS b hb)
  have hS' : ∀ b, S b → b < w.heap.size + 1 := fun b hb => by have := hS b hb; omega
  have e' : ncells n An cn Ak k.len ck = ncells n Bn dn Bk k.len dk := by simpa using e
  refine ⟨ncells n An cn Ak k.len ck, Rd.rdS (Rd.elem_new w _ T), Bn, dn, Bk, dk, [], ks, by rw [e']; simp, hok, h1, h2, hn.keep hbl hS', hr.keep hbl hS', hk.keep hbl hS', rfl⟩
/-- What stands in the law: what was there is there; two values in two boxes. -/
def SV (w : World) (n : Nd) (k : F) (g : Nat) (An : Option Addr) (cn : Nat) (Ak : Option Addr) (ck : Nat) (x : Nat) (Cn : Option Addr) (en : Nat) (Ck : Option Addr) (ek : Nat) (wr : World) : Prop :=
  Below w.heap.size w wr ∧ Blk wr g (ncells n An cn Ak k.len ck).toArray 25 ∧ Blk wr x (ncells n Cn en Ck k.len ek).toArray 25 ∧
  Vo wr (· < wr.heap.size) n k (.agg (ncells n An cn Ak k.len ck).toArray) ∧ Vo wr (· < wr.heap.size) n k (.agg (ncells n Cn en Ck k.len ek).toArray) ∧ w.heap.size ≤ wr.heap.size
section
variable {w : World} {n : Nd} {k : F} {g : Nat} {An : Option Addr} {cn : Nat} {Ak : Option Addr} {ck : Nat} {x : Nat} {Cn : Option Addr} {en : Nat} {Ck : Option Addr} {ek : Nat} {wr wr' : World}
theorem SV.step (h : SV w n k g An cn Ak ck x Cn en Ck ek wr) (b : Below wr.heap.size wr wr') : SV w n k g An cn Ak ck x Cn en Ck ek wr' :=
  ⟨h.1.trans (b.mono h.2.2.2.2.2), h.2.1.below b h.2.1.lt, h.2.2.1.below b h.2.2.1.lt, h.2.2.2.1.upto b, h.2.2.2.2.1.upto b, Nat.le_trans h.2.2.2.2.2 b.size⟩
theorem SV.drew (h : SV w n k g An cn Ak ck x Cn en Ck ek wr) : SV w n k g An cn Ak ck x Cn en Ck ek wr.drew :=
  ⟨⟨h.1.os, h.1.tape, h.1.output, h.1.size, h.1.block⟩, h.2.1, h.2.2.1, h.2.2.2.1.keep (fun _ _ => rfl) (fun _ h => h), h.2.2.2.2.1.keep (fun _ _ => rfl) (fun _ h => h), h.2.2.2.2.2⟩
theorem SV.v1 (h : SV w n k g An cn Ak ck x Cn en Ck ek wr) : Vo wr (· < wr.heap.size) n k (.agg (ncells n An cn Ak k.len ck).toArray) := h.2.2.2.1
theorem SV.v2 (h : SV w n k g An cn Ak ck x Cn en Ck ek wr) : Vo wr (· < wr.heap.size) n k (.agg (ncells n Cn en Ck k.len ek).toArray) := h.2.2.2.2.1
theorem sv_all (h : SV w n k g An cn Ak ck x Cn en Ck ek wr) : (((wr.cell? ⟨g, 0, none⟩ = some (.int .i64 n.kind) ∧ wr.cell? ⟨g, 1, none⟩ = some (.int .i64 n.int)) ∧ (wr.cell? ⟨g, 2, none⟩ = some (.int .i64 n.scale) ∧
      wr.cell? ⟨g, 3, none⟩ = some (.string (str n.text)))) ∧ (wr.cell? ⟨g, 4, none⟩ = some (.slice An n.names.length cn) ∧ wr.cell? ⟨g, 5, none⟩ = some (.slice Ak k.len ck))) ∧
      (((wr.cell? ⟨x, 0, none⟩ = some (.int .i64 n.kind) ∧ wr.cell? ⟨x, 1, none⟩ = some (.int .i64 n.int)) ∧ (wr.cell? ⟨x, 2, none⟩ = some (.int .i64 n.scale) ∧
      wr.cell? ⟨x, 3, none⟩ = some (.string (str n.text)))) ∧ (wr.cell? ⟨x, 4, none⟩ = some (.slice Cn n.names.length en) ∧ wr.cell? ⟨x, 5, none⟩ = some (.slice Ck k.len ek))) ∧ SV w n k g An cn Ak ck x Cn en Ck ek wr := by
  obtain ⟨⟨a0, a1, a2, a3, a4, a5⟩, ⟨b0, b1, b2, b3, b4, b5⟩⟩ := (⟨h.2.1.six, h.2.2.1.six⟩ : Six0 wr g n An cn Ak k.len ck ∧ Six0 wr x n Cn en Ck k.len ek)
  exact ⟨⟨⟨⟨a0, a1⟩, ⟨a2, a3⟩⟩, ⟨a4, a5⟩⟩, ⟨⟨⟨b0, b1⟩, ⟨b2, b3⟩⟩, ⟨b4, b5⟩⟩, h⟩
theorem sv_in (h : (((wr.cell? ⟨g, 0, none⟩ = some (.int .i64 n.kind) ∧ wr.cell? ⟨g, 1, none⟩ = some (.int .i64 n.int)) ∧ (wr.cell? ⟨g, 2, none⟩ = some (.int .i64 n.scale) ∧
      wr.cell? ⟨g, 3, none⟩ = some (.string (str n.text)))) ∧ (wr.cell? ⟨g, 4, none⟩ = some (.slice An n.names.length cn) ∧ wr.cell? ⟨g, 5, none⟩ = some (.slice Ak k.len ck))) ∧
      (((wr.cell? ⟨x, 0, none⟩ = some (.int .i64 n.kind) ∧ wr.cell? ⟨x, 1, none⟩ = some (.int .i64 n.int)) ∧ (wr.cell? ⟨x, 2, none⟩ = some (.int .i64 n.scale) ∧
      wr.cell? ⟨x, 3, none⟩ = some (.string (str n.text)))) ∧ (wr.cell? ⟨x, 4, none⟩ = some (.slice Cn n.names.length en) ∧ wr.cell? ⟨x, 5, none⟩ = some (.slice Ck k.len ek))) ∧ SV w n k g An cn Ak ck x Cn en Ck ek wr) : SV w n k g An cn Ak ck x Cn en Ck ek wr := h.2.2
theorem SV.six (h : SV w n k g An cn Ak ck x Cn en Ck ek wr) : Six0 wr g n An cn Ak k.len ck ∧ Six0 wr x n Cn en Ck k.len ek := ⟨h.2.1.six, h.2.2.1.six⟩
end
set_option maxRecDepth 100000 in
set_option maxHeartbeats 3200000 in
theorem valueChecks_walk (n : Nd) (k : F) (v : Value) (w : World) (hv : Vo w (· < w.heap.size) n k v) :
    Calls Try.prog 3 #[v] w (Ret (.bool true) w) := by
  have hh : Hid (∀ (A : Option Addr) (w : World), Kids w (· < w.heap.size) A (.cons n k .nil) → Calls Try.prog 7 #[.slice A 1 1] w (Ret (.bool (heavyF (.cons n k .nil))) w)) := fun A w h =>
    heavy_any A (.cons n k .nil) 1 w ⟨by simp [F.len], by simp [F.len]⟩ h
  have HV := Lib.hid hv
  obtain ⟨An, cn, Ak, ck, rfl, _, _, _, _, _⟩ := hv
  have hbx := boxw_eq w n An cn Ak k.len ck
  have hb0 := boxw_below w n An cn Ak k.len ck
  have hbk := boxw_blk w n An cn Ak k.len ck
  generalize boxw w n An cn Ak k.len ck = Wb at *
  obtain ⟨x0, x1, x2, x3, x4, x5⟩ := hbk.six
  have HBK := Lib.hid hbk
  have HB0 := Lib.hid hb0
  have hV1 := Lib.hid (HV.out.upto hb0)
  clear hbk hb0 HV
  have hw1 : Hid (heavyF (.cons n k .nil) = false → cost n + wtF k ≤ 2500) := fun h => by have := heavyF_wt h; simpa [wtF] using this
  generalize hHV : heavyF (.cons n k .nil) = hv at *
  clear hHV
  unfold ncells
  go_enter Try.func3, Try.ntmps3
  go_wp2_with fail
  have hk1 := kids_one hV1.out (fun b hb => hb) 25
  generalize hA : Wb.alloc (.cells #[.int .i64 n.kind, .int .i64 n.int, .int .i64 n.scale, .string (str n.text), .slice An n.names.length cn, .slice Ak k.len ck] 25) = Wa
  have ba : Below Wb.heap.size Wb Wa := by rw [← hA]; exact (Below.refl _ _).alloc (Nat.le_refl _) _
  have hza : Wa.heap.size = Wb.heap.size + 1 := by rw [← hA]; simp
  rw [show Wb.alloc (.cells (ncells n An cn Ak k.len ck).toArray 25) = Wa from hA, ← hza] at hk1
  have HK1 := Lib.hid hk1
  clear hk1 hA hza x0 x1 x2 x3 x4 x5 hbx
  refine ((unhide hh) _ _ HK1.out).mono ?_
  rintro e w2 ⟨rfl, b2⟩
  have b02 := bseq ba b2
  rcases hv with _ | _
  rotate_left
  · go_wp2_with fail
    go_ret
    exact ⟨rfl, bseq HB0.out b02⟩
  have hwt := hw1.out rfl
  have hsz : szF k ≤ 1000000 := by have := szF_wt k; omega
  have HC : Hid (∀ (v : Value) (w : World), Vo w (· < w.heap.size) n k v → Calls Try.prog 8 #[v] w (RetV n k w)) := fun v w h => clone_any n k v w hwt h
  have HS1 : Hid (∀ (v : Value) (w : World), Vo w (· < w.heap.size) n k v → Calls Try.prog 9 #[v] w (Ret2 (sizeN n k) (sizeD n k) w)) := fun v w h => Size_any n k v w hsz h
  have HS2 : Hid (∀ (v : Value) (w : World), Vo w (· < w.heap.size) n k v → Calls Try.prog 10 #[v] w (Ret2 (sizeN n k) (sizeD n k) w)) := fun v w h => RSize_any n k v w hsz h
  have HK1 : Hid (∀ (v : Value) (w : World), Vo w (· < w.heap.size) n k v → Calls Try.prog 11 #[v] w (Ret (.int .i64 (chk n k 1 : Int)) w)) := fun v w h => Check_any n k v w h
  have HK2 : Hid (∀ (v : Value) (w : World), Vo w (· < w.heap.size) n k v → Calls Try.prog 12 #[v] w (Ret (.int .i64 (chk n k 1 : Int)) w)) := fun v w h => RCheck_any n k v w h
  have HE : Hid (∀ (v u : Value) (w : World), Vo w (· < w.heap.size) n k v → Vo w (· < w.heap.size) n k u → Calls Try.prog 13 #[v, u] w (Ret (.bool true) w)) := fun v u w h h' => by
    have := eq_any n k n k v u w h h'
    rwa [eqV_iff.2 ⟨rfl, rfl⟩] at this
  have hbk2 : Blk w2 w.heap.size (ncells n An cn Ak k.len ck).toArray 25 := HBK.out.below b02 HBK.out.lt
  have hV2 := Lib.hid (hV1.out.upto b02)
  have HB2 := Lib.hid (bseq HB0.out b02)
  obtain ⟨x0, x1, x2, x3, x4, x5⟩ := hbk2.six
  have HBK2 := Lib.hid hbk2
  clear hbk2 hwt hsz ba b2 b02 hw1 hh
  go_wp2_with fail
  clear x0 x1 x2 x3 x4 x5
  refine ((unhide HC) _ _ hV2.out).mono ?_
  rintro e w3 ⟨v3, rfl, hv3, b3⟩
  have hsz3 := b3.size
  have HV3 := Lib.hid hv3
  obtain ⟨Cn, en, Ck, ek, rfl, _, _, _, _, _⟩ := hv3
  have hbk3 : Blk w3 w.heap.size (ncells n An cn Ak k.len ck).toArray 25 := HBK2.out.below b3 HBK2.out.lt
  have hV3 := Lib.hid (hV2.out.upto b3)
  generalize hX : w3.alloc (.cells #[.int .i64 0, .int .i64 0, .int .i64 0, .string ⟨#[]⟩, .slice none 0 0, .slice none 0 0] 25) = Wx
  have bx : Blk Wx w3.heap.size #[.int .i64 0, .int .i64 0, .int .i64 0, .string ⟨#[]⟩, .slice none 0 0, .slice none 0 0] 25 := by rw [← hX]; exact Blk.new _ _ _
  have bX : Below w3.heap.size w3 Wx := by rw [← hX]; exact (Below.refl _ _).alloc (Nat.le_refl _) _
  have p0 : Wx.cell? ⟨w3.heap.size, 0, none⟩ = some (.int .i64 0) := bx.cell 0
  have p1 : Wx.cell? ⟨w3.heap.size, 1, none⟩ = some (.int .i64 0) := bx.cell 1
  have p2 : Wx.cell? ⟨w3.heap.size, 2, none⟩ = some (.int .i64 0) := bx.cell 2
  have p3 : Wx.cell? ⟨w3.heap.size, 3, none⟩ = some (.string ⟨#[]⟩) := bx.cell 3
  have p4 : Wx.cell? ⟨w3.heap.size, 4, none⟩ = some (.slice none 0 0) := bx.cell 4
  have p5 : Wx.cell? ⟨w3.heap.size, 5, none⟩ = some (.slice none 0 0) := bx.cell 5
  have q0 := bx.free 0
  have q1 := bx.free 1
  have q2 := bx.free 2
  have q3 := bx.free 3
  have q4 := bx.free 4
  have q5 := bx.free 5
  have BX := Lib.hid bx
  have BXB := Lib.hid bX
  have HBK3 := Lib.hid hbk3
  clear bx bX hbk3
  unfold ncells
  go_wp2_with fail
  clear p0 p1 p2 p3 p4 p5 q0 q1 q2 q3 q4 q5 hX
  obtain ⟨Wy, hWy⟩ : ∃ Wy, ((((((Wx.setCell ⟨w3.heap.size, 0, none⟩ (.int .i64 n.kind)).setCell ⟨w3.heap.size, 1, none⟩ (.int .i64 n.int)).setCell ⟨w3.heap.size, 2, none⟩ (.int .i64 n.scale)).setCell ⟨w3.heap.size, 3, none⟩ (.string (str n.text))).setCell
    ⟨w3.heap.size, 4, none⟩ (.slice Cn n.names.length en)).setCell ⟨w3.heap.size, 5, none⟩ (.slice Ck k.len ek)) = Wy := ⟨_, rfl⟩
  have hy : Below w3.heap.size w3 Wy := by
    rw [← hWy]
    exact (((((BXB.out.setCell (Nat.le_refl _) _).setCell (Nat.le_refl _) _).setCell (Nat.le_refl _) _).setCell (Nat.le_refl _) _).setCell (Nat.le_refl _) _).setCell (Nat.le_refl _) _
  have hby : Blk Wy w3.heap.size (ncells n Cn en Ck k.len ek).toArray 25 := by
    rw [← hWy]; exact (((((Blk.set BX.out 0 _).set 1 _).set 2 _).set 3 _).set 4 _).set 5 _
  have sv1 : SV w n k w.heap.size An cn Ak ck w3.heap.size Cn en Ck ek Wy :=
    ⟨bseq (bseq HB2.out b3) hy, HBK3.out.below hy HBK3.out.lt, hby, hV3.out.upto hy, (HV3.out.keep (S' := (· < w3.heap.size)) (fun _ _ => rfl) (fun b hb => hb.2)).upto hy, Nat.le_trans HB2.out.size (Nat.le_trans b3.size hy.size)⟩
  rw [hWy]
  clear hWy hy hby BX BXB HBK3 hV3 HV3 b3 hV2 HB2 HBK2 hV1 HB0 HBK
  have SV1 := Lib.hid sv1
  obtain ⟨⟨x0, x1, x2, x3, x4, x5⟩, ⟨y0, y1, y2, y3, y4, y5⟩⟩ := sv1.six
  clear sv1
  refine ((unhide HS1) _ _ SV1.out.2.2.2.2.1).mono ?_
  rintro e w4 ⟨rfl, b4⟩
  have sv2 := SV1.out.step b4
  clear x0 x1 x2 x3 x4 x5 y0 y1 y2 y3 y4 y5 SV1
  have SV2 := Lib.hid sv2
  obtain ⟨⟨x0, x1, x2, x3, x4, x5⟩, ⟨y0, y1, y2, y3, y4, y5⟩⟩ := sv2.six
  clear sv2 b4
  go_wp2_with fail
  refine ((unhide HS2) _ _ SV2.out.2.2.2.1).mono ?_
  rintro e w5 ⟨rfl, b5⟩
  have sv3 := SV2.out.step b5
  clear x0 x1 x2 x3 x4 x5 y0 y1 y2 y3 y4 y5 SV2
  have SV3 := Lib.hid sv3
  obtain ⟨⟨x0, x1, x2, x3, x4, x5⟩, ⟨y0, y1, y2, y3, y4, y5⟩⟩ := sv3.six
  clear sv3 b5
  generalize sizeN n k = sn at *
  generalize sizeD n k = sd at *
  generalize chk n k 1 = C at *
  have z1 : ((C : Int) == (C : Int)) = true := by simp
  have z2 : ((sn : Int) == (sn : Int)) = true := by simp
  have z3 : ((sd : Int) == (sd : Int)) = true := by simp
  go_wp2_with fail
  have HA1 : Hid (∀ wr, SV w n k w.heap.size An cn Ak ck w3.heap.size Cn en Ck ek wr → Calls Try.prog 11 #[.agg #[.int .i64 n.kind, .int .i64 n.int, .int .i64 n.scale, .string (str n.text), .slice Cn n.names.length en, .slice Ck k.len ek]] wr (Ret (.int .i64 (C : Int)) wr)) := fun wr h => (unhide HK1) _ _ h.v2
  have HA2 : Hid (∀ wr, SV w n k w.heap.size An cn Ak ck w3.heap.size Cn en Ck ek wr → Calls Try.prog 12 #[.agg #[.int .i64 n.kind, .int .i64 n.int, .int .i64 n.scale, .string (str n.text), .slice An n.names.length cn, .slice Ak k.len ck]] wr (Ret (.int .i64 (C : Int)) wr)) := fun wr h => (unhide HK2) _ _ h.v1
  have HA3 : Hid (∀ wr, SV w n k w.heap.size An cn Ak ck w3.heap.size Cn en Ck ek wr → Calls Try.prog 13 #[.agg #[.int .i64 n.kind, .int .i64 n.int, .int .i64 n.scale, .string (str n.text), .slice Cn n.names.length en, .slice Ck k.len ek], .agg #[.int .i64 n.kind, .int .i64 n.int, .int .i64 n.scale, .string (str n.text), .slice An n.names.length cn, .slice Ak k.len ck]] wr (Ret (.bool true) wr)) := fun wr h => (unhide HE) _ _ _ h.v2 h.v1
  clear HK1 HK2 HE HS1 HS2 HC
  have sv3 := SV3.out
  go_region_held3 (fun w' => (((w'.cell? ⟨w.heap.size, 0, none⟩ = some (.int .i64 n.kind) ∧ w'.cell? ⟨w.heap.size, 1, none⟩ = some (.int .i64 n.int)) ∧ (w'.cell? ⟨w.heap.size, 2, none⟩ = some (.int .i64 n.scale) ∧
      w'.cell? ⟨w.heap.size, 3, none⟩ = some (.string (str n.text)))) ∧ (w'.cell? ⟨w.heap.size, 4, none⟩ = some (.slice An n.names.length cn) ∧ w'.cell? ⟨w.heap.size, 5, none⟩ = some (.slice Ak k.len ck))) ∧
      (((w'.cell? ⟨w3.heap.size, 0, none⟩ = some (.int .i64 n.kind) ∧ w'.cell? ⟨w3.heap.size, 1, none⟩ = some (.int .i64 n.int)) ∧ (w'.cell? ⟨w3.heap.size, 2, none⟩ = some (.int .i64 n.scale) ∧
      w'.cell? ⟨w3.heap.size, 3, none⟩ = some (.string (str n.text)))) ∧ (w'.cell? ⟨w3.heap.size, 4, none⟩ = some (.slice Cn n.names.length en) ∧ w'.cell? ⟨w3.heap.size, 5, none⟩ = some (.slice Ck k.len ek))) ∧
      SV w n k w.heap.size An cn Ak ck w3.heap.size Cn en Ck ek w')
    (first
      | exact sv_all (SV.step (sv_in (by assumption)) (by assumption))
      | exact sv_all (SV.drew sv3)
      | exact sv_all (SV.drew (sv_in (by assumption)))
      | exact sv_all (sv_in (by assumption)))
    (first
      | (go_at_call 11; refine ((unhide HA1) _ (sv_in (by assumption))).mono ?_; rintro e w' ⟨rfl, b⟩)
      | (go_at_call 12; refine ((unhide HA2) _ (sv_in (by assumption))).mono ?_; rintro e w' ⟨rfl, b⟩)
      | (go_at_call 13; refine ((unhide HA3) _ (sv_in (by assumption))).mono ?_; rintro e w' ⟨rfl, b⟩)
      | (go_at_call 14; refine (known5_any _).mono ?_; rintro e w' ⟨rfl, b⟩))
  go_wp2_with fail
  go_ret
  exact ⟨rfl, And.left (sv_in (n := n) (k := k) (g := w.heap.size) (An := An) (cn := cn) (Ak := Ak) (ck := ck) (x := w3.heap.size) (Cn := Cn) (en := en) (Ck := Ck) (ek := ek) (by assumption))⟩
end Go.Proofs.Ytfcbcbpnlnkpcaa

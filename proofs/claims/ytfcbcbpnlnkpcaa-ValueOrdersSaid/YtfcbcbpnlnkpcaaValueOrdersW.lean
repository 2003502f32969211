/- ValueOrders: the walk. (Printed by a small program of mine, gen/vorders.py.) -/
import Derived.Test.YtfcbcbpnlnkpcaaBoxes
import Derived.Test.YtfcbcbpnlnkpcaaPub5
import Derived.Test.YtfcbcbpnlnkpcaaKnown5
import Derived.Deep.RegionHeld3
import Derived.Outline
namespace Go.Proofs.Ytfcbcbpnlnkpcaa
set_option linter.all false
open Go.RowKit
theorem vo2_all {w wr : World} {n0 : Nd} {k0 : F} {An0 : Option Addr} {cn0 : Nat} {Ak0 : Option Addr} {ck0 : Nat} {g0 : Nat} {n1 : Nd} {k1 : F} {An1 : Option Addr} {cn1 : Nat} {Ak1 : Option Addr} {ck1 : Nat} {g1 : Nat} (h : St w [⟨g0, n0, k0, An0, cn0, Ak0, ck0⟩, ⟨g1, n1, k1, An1, cn1, Ak1, ck1⟩] wr) : (wr.cell? ⟨g0, 0, none⟩ = some (.int .i64 n0.kind) ∧ wr.cell? ⟨g0, 1, none⟩ = some (.int .i64 n0.int) ∧ wr.cell? ⟨g0, 2, none⟩ = some (.int .i64 n0.scale) ∧ wr.cell? ⟨g0, 3, none⟩ = some (.string (str n0.text)) ∧ wr.cell? ⟨g0, 4, none⟩ = some (.slice An0 n0.names.length cn0) ∧ wr.cell? ⟨g0, 5, none⟩ = some (.slice Ak0 k0.len ck0)) ∧ (wr.cell? ⟨g1, 0, none⟩ = some (.int .i64 n1.kind) ∧ wr.cell? ⟨g1, 1, none⟩ = some (.int .i64 n1.int) ∧ wr.cell? ⟨g1, 2, none⟩ = some (.int .i64 n1.scale) ∧ wr.cell? ⟨g1, 3, none⟩ = some (.string (str n1.text)) ∧ wr.cell? ⟨g1, 4, none⟩ = some (.slice An1 n1.names.length cn1) ∧ wr.cell? ⟨g1, 5, none⟩ = some (.slice Ak1 k1.len ck1)) ∧ St w [⟨g0, n0, k0, An0, cn0, Ak0, ck0⟩, ⟨g1, n1, k1, An1, cn1, Ak1, ck1⟩] wr := ⟨h.six 0 rfl, h.six 1 rfl, h⟩
theorem vo2_in {w wr : World} {n0 : Nd} {k0 : F} {An0 : Option Addr} {cn0 : Nat} {Ak0 : Option Addr} {ck0 : Nat} {g0 : Nat} {n1 : Nd} {k1 : F} {An1 : Option Addr} {cn1 : Nat} {Ak1 : Option Addr} {ck1 : Nat} {g1 : Nat} (h : (wr.cell? ⟨g0, 0, none⟩ = some (.int .i64 n0.kind) ∧ wr.cell? ⟨g0, 1, none⟩ = some (.int .i64 n0.int) ∧ wr.cell? ⟨g0, 2, none⟩ = some (.int .i64 n0.scale) ∧ wr.cell? ⟨g0, 3, none⟩ = some (.string (str n0.text)) ∧ wr.cell? ⟨g0, 4, none⟩ = some (.slice An0 n0.names.length cn0) ∧ wr.cell? ⟨g0, 5, none⟩ = some (.slice Ak0 k0.len ck0)) ∧ (wr.cell? ⟨g1, 0, none⟩ = some (.int .i64 n1.kind) ∧ wr.cell? ⟨g1, 1, none⟩ = some (.int .i64 n1.int) ∧ wr.cell? ⟨g1, 2, none⟩ = some (.int .i64 n1.scale) ∧ wr.cell? ⟨g1, 3, none⟩ = some (.string (str n1.text)) ∧ wr.cell? ⟨g1, 4, none⟩ = some (.slice An1 n1.names.length cn1) ∧ wr.cell? ⟨g1, 5, none⟩ = some (.slice Ak1 k1.len ck1)) ∧ St w [⟨g0, n0, k0, An0, cn0, Ak0, ck0⟩, ⟨g1, n1, k1, An1, cn1, Ak1, ck1⟩] wr) : St w [⟨g0, n0, k0, An0, cn0, Ak0, ck0⟩, ⟨g1, n1, k1, An1, cn1, Ak1, ck1⟩] wr := h.2.2
set_option maxRecDepth 100000 in
set_option maxHeartbeats 6400000 in
theorem valueOrders_walk (n0 : Nd) (k0 : F) (v0 : Value) (n1 : Nd) (k1 : F) (v1 : Value) (w : World) (hv0 : Vo w (· < w.heap.size) n0 k0 v0) (hv1 : Vo w (· < w.heap.size) n1 k1 v1) :
    Calls Try.prog 4 #[v0, v1] w (Ret (.bool true) w) := by
  have hh : Hid (∀ (A : Option Addr) (w : World), Kids w (· < w.heap.size) A (.cons n0 k0 (.cons n1 k1 .nil)) → Calls Try.prog 7 #[.slice A 2 2] w (Ret (.bool (heavyF (.cons n0 k0 (.cons n1 k1 .nil)))) w)) := fun A w h => heavy_any A (.cons n0 k0 (.cons n1 k1 .nil)) 2 w ⟨by simp [F.len], by simp [F.len]⟩ h
  obtain ⟨An0, cn0, Ak0, ck0, rfl, _, _, _, _, _⟩ := id hv0
  obtain ⟨An1, cn1, Ak1, ck1, rfl, _, _, _, _, _⟩ := id hv1
  have ST : St w [⟨w.heap.size, n0, k0, An0, cn0, Ak0, ck0⟩, ⟨(w.heap.size + 1), n1, k1, An1, cn1, Ak1, ck1⟩] ((w.alloc (.cells #[.int .i64 n0.kind, .int .i64 n0.int, .int .i64 n0.scale, .string (str n0.text), .slice An0 n0.names.length cn0, .slice Ak0 k0.len ck0] 25)).alloc (.cells #[.int .i64 n1.kind, .int .i64 n1.int, .int .i64 n1.scale, .string (str n1.text), .slice An1 n1.names.length cn1, .slice Ak1 k1.len ck1] 25)) := by
    have := (St.box_new (St.box_new (St.nil w) hv0) hv1)
    simpa [ncells] using this
  generalize hW : ((w.alloc (.cells #[.int .i64 n0.kind, .int .i64 n0.int, .int .i64 n0.scale, .string (str n0.text), .slice An0 n0.names.length cn0, .slice Ak0 k0.len ck0] 25)).alloc (.cells #[.int .i64 n1.kind, .int .i64 n1.int, .int .i64 n1.scale, .string (str n1.text), .slice An1 n1.names.length cn1, .slice Ak1 k1.len ck1] 25)) = W at *
  have hv : heavyF (.cons n0 k0 (.cons n1 k1 .nil)) = heavyF (.cons n0 k0 (.cons n1 k1 .nil)) := rfl
  generalize hHV : heavyF (.cons n0 k0 (.cons n1 k1 .nil)) = hvy at *
  clear hv hHV
  have ST0 := Lib.hid ST
  obtain ⟨x00, x01, x02, x03, x04, x05⟩ : Six0 W w.heap.size n0 An0 cn0 Ak0 k0.len ck0 := ST.six 0 rfl
  have xlt0 : w.heap.size < W.heap.size := ST.lt 0 rfl
  obtain ⟨x10, x11, x12, x13, x14, x15⟩ : Six0 W (w.heap.size + 1) n1 An1 cn1 Ak1 k1.len ck1 := ST.six 1 rfl
  have xlt1 : (w.heap.size + 1) < W.heap.size := ST.lt 1 rfl
  clear ST hv0 hv1
  unfold ncells
  go_enter Try.func4, Try.ntmps4
  go_wp2_with fail
  have hkd := kids_new (Vo.kc (ST0.out.v 0 rfl) (Vo.kc (ST0.out.v 1 rfl) (show Kc W (· < W.heap.size) F.nil [] from rfl))) (fun b hb => hb) 25
  generalize hA : W.alloc (.cells #[.int .i64 n0.kind, .int .i64 n0.int, .int .i64 n0.scale, .string (str n0.text), .slice An0 n0.names.length cn0, .slice Ak0 k0.len ck0, .int .i64 n1.kind, .int .i64 n1.int, .int .i64 n1.scale, .string (str n1.text), .slice An1 n1.names.length cn1, .slice Ak1 k1.len ck1] 25) = Wa
  have ba : Below W.heap.size W Wa := by rw [← hA]; exact (Below.refl _ _).alloc (Nat.le_refl _) _
  have HK : Hid (Kids Wa (· < Wa.heap.size) (some ⟨W.heap.size, 0, none⟩) (.cons n0 k0 (.cons n1 k1 .nil))) := by show Kids _ _ _ _; rw [← hA]; simpa [ncells] using hkd
  clear hkd hA x00 x01 x02 x03 x04 x05 x10 x11 x12 x13 x14 x15 xlt0 xlt1
  refine ((unhide hh) _ _ HK.out).mono ?_
  rintro e w2 ⟨rfl, b2⟩
  have ST2 := Lib.hid (ST0.out.step (bseq ba b2))
  clear ST0 HK ba b2 hW hh
  rcases hvy with _ | _
  rotate_left
  · go_wp2_with fail
    go_ret
    exact ⟨rfl, ST2.out.1⟩
  have HA1 : Hid (∀ wr, St w [⟨w.heap.size, n0, k0, An0, cn0, Ak0, ck0⟩, ⟨(w.heap.size + 1), n1, k1, An1, cn1, Ak1, ck1⟩] wr → Calls Try.prog 15 #[.agg #[.int .i64 n0.kind, .int .i64 n0.int, .int .i64 n0.scale, .string (str n0.text), .slice An0 n0.names.length cn0, .slice Ak0 k0.len ck0], .agg #[.int .i64 n1.kind, .int .i64 n1.int, .int .i64 n1.scale, .string (str n1.text), .slice An1 n1.names.length cn1, .slice Ak1 k1.len ck1]] wr (Ret (.int .i64 (cmpP n0 k0 n1 k1)) wr)) := fun wr h => Compare_any n0 k0 n1 k1 _ _ wr (h.v 0 rfl) (h.v 1 rfl)
  have HA2 : Hid (∀ wr, St w [⟨w.heap.size, n0, k0, An0, cn0, Ak0, ck0⟩, ⟨(w.heap.size + 1), n1, k1, An1, cn1, Ak1, ck1⟩] wr → Calls Try.prog 16 #[.agg #[.int .i64 n0.kind, .int .i64 n0.int, .int .i64 n0.scale, .string (str n0.text), .slice An0 n0.names.length cn0, .slice Ak0 k0.len ck0], .agg #[.int .i64 n1.kind, .int .i64 n1.int, .int .i64 n1.scale, .string (str n1.text), .slice An1 n1.names.length cn1, .slice Ak1 k1.len ck1]] wr (Ret (.int .i64 (cmpP n0 k0 n1 k1)) wr)) := fun wr h => RCompare_any n0 k0 n1 k1 _ _ wr (h.v 0 rfl) (h.v 1 rfl)
  have HA3 : Hid (∀ wr, St w [⟨w.heap.size, n0, k0, An0, cn0, Ak0, ck0⟩, ⟨(w.heap.size + 1), n1, k1, An1, cn1, Ak1, ck1⟩] wr → Calls Try.prog 17 #[.agg #[.int .i64 n0.kind, .int .i64 n0.int, .int .i64 n0.scale, .string (str n0.text), .slice An0 n0.names.length cn0, .slice Ak0 k0.len ck0], .agg #[.int .i64 n1.kind, .int .i64 n1.int, .int .i64 n1.scale, .string (str n1.text), .slice An1 n1.names.length cn1, .slice Ak1 k1.len ck1]] wr (Ret (.bool (sameP n0 k0 n1 k1)) wr)) := fun wr h => Same_any n0 k0 n1 k1 _ _ wr (h.v 0 rfl) (h.v 1 rfl)
  have HA4 : Hid (∀ wr, St w [⟨w.heap.size, n0, k0, An0, cn0, Ak0, ck0⟩, ⟨(w.heap.size + 1), n1, k1, An1, cn1, Ak1, ck1⟩] wr → Calls Try.prog 18 #[.agg #[.int .i64 n0.kind, .int .i64 n0.int, .int .i64 n0.scale, .string (str n0.text), .slice An0 n0.names.length cn0, .slice Ak0 k0.len ck0], .agg #[.int .i64 n1.kind, .int .i64 n1.int, .int .i64 n1.scale, .string (str n1.text), .slice An1 n1.names.length cn1, .slice Ak1 k1.len ck1]] wr (Ret (.bool (sameP n0 k0 n1 k1)) wr)) := fun wr h => RSame_any n0 k0 n1 k1 _ _ wr (h.v 0 rfl) (h.v 1 rfl)
  generalize cmpP n0 k0 n1 k1 = C at *
  generalize sameP n0 k0 n1 k1 = D at *
  have z1 : (C == C) = true := by simp
  have z2 : (D == D) = true := by simp
  have st2 := ST2.out
  obtain ⟨x00, x01, x02, x03, x04, x05⟩ : Six0 w2 w.heap.size n0 An0 cn0 Ak0 k0.len ck0 := st2.six 0 rfl
  have xlt0 : w.heap.size < w2.heap.size := st2.lt 0 rfl
  obtain ⟨x10, x11, x12, x13, x14, x15⟩ : Six0 w2 (w.heap.size + 1) n1 An1 cn1 Ak1 k1.len ck1 := st2.six 1 rfl
  have xlt1 : (w.heap.size + 1) < w2.heap.size := st2.lt 1 rfl
  clear ST2
  go_wp2_with fail
  go_region_held3 (fun wr => (wr.cell? ⟨w.heap.size, 0, none⟩ = some (.int .i64 n0.kind) ∧ wr.cell? ⟨w.heap.size, 1, none⟩ = some (.int .i64 n0.int) ∧ wr.cell? ⟨w.heap.size, 2, none⟩ = some (.int .i64 n0.scale) ∧ wr.cell? ⟨w.heap.size, 3, none⟩ = some (.string (str n0.text)) ∧ wr.cell? ⟨w.heap.size, 4, none⟩ = some (.slice An0 n0.names.length cn0) ∧ wr.cell? ⟨w.heap.size, 5, none⟩ = some (.slice Ak0 k0.len ck0)) ∧ (wr.cell? ⟨(w.heap.size + 1), 0, none⟩ = some (.int .i64 n1.kind) ∧ wr.cell? ⟨(w.heap.size + 1), 1, none⟩ = some (.int .i64 n1.int) ∧ wr.cell? ⟨(w.heap.size + 1), 2, none⟩ = some (.int .i64 n1.scale) ∧ wr.cell? ⟨(w.heap.size + 1), 3, none⟩ = some (.string (str n1.text)) ∧ wr.cell? ⟨(w.heap.size + 1), 4, none⟩ = some (.slice An1 n1.names.length cn1) ∧ wr.cell? ⟨(w.heap.size + 1), 5, none⟩ = some (.slice Ak1 k1.len ck1)) ∧ St w [⟨w.heap.size, n0, k0, An0, cn0, Ak0, ck0⟩, ⟨(w.heap.size + 1), n1, k1, An1, cn1, Ak1, ck1⟩] wr)
    (first
      | exact vo2_all (St.step (vo2_in (by assumption)) (by assumption))
      | exact vo2_all (St.drew st2)
      | exact vo2_all (St.drew (vo2_in (by assumption)))
      | exact vo2_all (vo2_in (by assumption)))
    (first
      | (go_at_call 15; refine ((unhide HA1) _ (vo2_in (by assumption))).mono ?_; rintro e w' ⟨rfl, b⟩)
      | (go_at_call 16; refine ((unhide HA2) _ (vo2_in (by assumption))).mono ?_; rintro e w' ⟨rfl, b⟩)
      | (go_at_call 17; refine ((unhide HA3) _ (vo2_in (by assumption))).mono ?_; rintro e w' ⟨rfl, b⟩)
      | (go_at_call 18; refine ((unhide HA4) _ (vo2_in (by assumption))).mono ?_; rintro e w' ⟨rfl, b⟩)
      | (go_at_call 14; refine (known5_any _).mono ?_; rintro e w' ⟨rfl, b⟩))
  all_goals
    go_wp2_with fail
    go_ret
    exact ⟨rfl, And.left (vo2_in (w := w) (n0 := n0) (k0 := k0) (An0 := An0) (cn0 := cn0) (Ak0 := Ak0) (ck0 := ck0) (g0 := w.heap.size) (n1 := n1) (k1 := k1) (An1 := An1) (cn1 := cn1) (Ak1 := Ak1) (ck1 := ck1) (g1 := (w.heap.size + 1)) (by assumption))⟩
end Go.Proofs.Ytfcbcbpnlnkpcaa

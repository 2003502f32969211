/- ValueOrder: the walk. (Printed by a small program of mine, gen/vorder.py.) -/
import Derived.Test.YtfcbcbpnlnkpcaaBoxes
import Derived.Test.YtfcbcbpnlnkpcaaPub5
import Derived.Test.YtfcbcbpnlnkpcaaKnown5
import Derived.Deep.RegionHeld3
import Derived.Outline
namespace Go.Proofs.Ytfcbcbpnlnkpcaa
set_option linter.all false
open Go.RowKit
theorem cmpV_small (n : Nd) (k : F) (m : Nd) (q : F) : -1 ≤ cmpV n k m q ∧ cmpV n k m q ≤ 1 := by
  have hI : ∀ a b : Int, -1 ≤ cmpI a b ∧ cmpI a b ≤ 1 := cmpI_small
  have hO : ∀ a b : Int, (-1 ≤ a ∧ a ≤ 1) → (-1 ≤ b ∧ b ≤ 1) → (-1 ≤ orI a b ∧ orI a b ≤ 1) := by intro a b h1 h2; unfold orI; split <;> omega
  have hB : ∀ a b : List UInt8, -1 ≤ cmpB a b ∧ cmpB a b ≤ 1 := by intro a b; unfold cmpB; (repeat' split) <;> omega
  have hN : ∀ (n m : Nd) (c : Int), (-1 ≤ c ∧ c ≤ 1) → (-1 ≤ nodeCmp n m c ∧ nodeCmp n m c ≤ 1) := by
    intro n m c hc
    unfold nodeCmp
    refine hO _ _ (hI _ _) ?_
    (repeat' split)
    · exact hI _ _
    · exact hB _ _
    · exact hc
    · exact hI _ _
  have hF : ∀ (f : F) (st : Bool) (us : List (List UInt8)) (g : F) (vs : List (List UInt8)), -1 ≤ cmpF st f us g vs ∧ cmpF st f us g vs ≤ 1 := by
    intro f
    induction f with
    | nil => intro st us g vs; cases g <;> simp [cmpF]
    | cons n k r ih1 ih2 =>
      intro st us g vs
      cases g with
      | nil => simp [cmpF]
      | cons m q s =>
        simp only [cmpF]
        refine hO _ _ ?_ (hO _ _ (hN _ _ _ (ih1 _ _ _ _)) (ih2 _ _ _ _))
        split
        · exact hB _ _
        · omega
  exact hN _ _ _ (hF _ _ _ _ _)
theorem cmpV_same {n : Nd} {k : F} {m : Nd} {q : F} (h : chk n k 1 = 0) (h' : chk m q 1 = 0) : eqV n k m q = (cmpV n k m q == 0) := by
  rw [Bool.eq_iff_iff, eqV_iff, beq_iff_eq]
  constructor
  · rintro ⟨rfl, rfl⟩; exact cmpV_self n k
  · intro e; exact cmpV_zero e h h'
theorem vo3_all {w wr : World} {n0 : Nd} {k0 : F} {An0 : Option Addr} {cn0 : Nat} {Ak0 : Option Addr} {ck0 : Nat} {g0 : Nat} {n1 : Nd} {k1 : F} {An1 : Option Addr} {cn1 : Nat} {Ak1 : Option Addr} {ck1 : Nat} {g1 : Nat} {n2 : Nd} {k2 : F} {An2 : Option Addr} {cn2 : Nat} {Ak2 : Option Addr} {ck2 : Nat} {g2 : Nat} (h : St w [⟨g0, n0, k0, An0, cn0, Ak0, ck0⟩, ⟨g1, n1, k1, An1, cn1, Ak1, ck1⟩, ⟨g2, n2, k2, An2, cn2, Ak2, ck2⟩] wr) : (wr.cell? ⟨g0, 0, none⟩ = some (.int .i64 n0.kind) ∧ wr.cell? ⟨g0, 1, none⟩ = some (.int .i64 n0.int) ∧ wr.cell? ⟨g0, 2, none⟩ = some (.int .i64 n0.scale) ∧ wr.cell? ⟨g0, 3, none⟩ = some (.string (str n0.text)) ∧ wr.cell? ⟨g0, 4, none⟩ = some (.slice An0 n0.names.length cn0) ∧ wr.cell? ⟨g0, 5, none⟩ = some (.slice Ak0 k0.len ck0)) ∧ (wr.cell? ⟨g1, 0, none⟩ = some (.int .i64 n1.kind) ∧ wr.cell? ⟨g1, 1, none⟩ = some (.int .i64 n1.int) ∧ wr.cell? ⟨g1, 2, none⟩ = some (.int .i64 n1.scale) ∧ wr.cell? ⟨g1, 3, none⟩ = some (.string (str n1.text)) ∧ wr.cell? ⟨g1, 4, none⟩ = some (.slice An1 n1.names.length cn1) ∧ wr.cell? ⟨g1, 5, none⟩ = some (.slice Ak1 k1.len ck1)) ∧ (wr.cell? ⟨g2, 0, none⟩ = some (.int .i64 n2.kind) ∧ wr.cell? ⟨g2, 1, none⟩ = some (.int .i64 n2.int) ∧ wr.cell? ⟨g2, 2, none⟩ = some (.int .i64 n2.scale) ∧ wr.cell? ⟨g2, 3, none⟩ = some (.string (str n2.text)) ∧ wr.cell? ⟨g2, 4, none⟩ = some (.slice An2 n2.names.length cn2) ∧ wr.cell? ⟨g2, 5, none⟩ = some (.slice Ak2 k2.len ck2)) ∧ St w [⟨g0, n0, k0, An0, cn0, Ak0, ck0⟩, ⟨g1, n1, k1, An1, cn1, Ak1, ck1⟩, ⟨g2, n2, k2, An2, cn2, Ak2, ck2⟩] wr := ⟨h.six 0 rfl, h.six 1 rfl, h.six 2 rfl, h⟩
theorem vo3_in {w wr : World} {n0 : Nd} {k0 : F} {An0 : Option Addr} {cn0 : Nat} {Ak0 : Option Addr} {ck0 : Nat} {g0 : Nat} {n1 : Nd} {k1 : F} {An1 : Option Addr} {cn1 : Nat} {Ak1 : Option Addr} {ck1 : Nat} {g1 : Nat} {n2 : Nd} {k2 : F} {An2 : Option Addr} {cn2 : Nat} {Ak2 : Option Addr} {ck2 : Nat} {g2 : Nat} (h : (wr.cell? ⟨g0, 0, none⟩ = some (.int .i64 n0.kind) ∧ wr.cell? ⟨g0, 1, none⟩ = some (.int .i64 n0.int) ∧ wr.cell? ⟨g0, 2, none⟩ = some (.int .i64 n0.scale) ∧ wr.cell? ⟨g0, 3, none⟩ = some (.string (str n0.text)) ∧ wr.cell? ⟨g0, 4, none⟩ = some (.slice An0 n0.names.length cn0) ∧ wr.cell? ⟨g0, 5, none⟩ = some (.slice Ak0 k0.len ck0)) ∧ (wr.cell? ⟨g1, 0, none⟩ = some (.int .i64 n1.kind) ∧ wr.cell? ⟨g1, 1, none⟩ = some (.int .i64 n1.int) ∧ wr.cell? ⟨g1, 2, none⟩ = some (.int .i64 n1.scale) ∧ wr.cell? ⟨g1, 3, none⟩ = some (.string (str n1.text)) ∧ wr.cell? ⟨g1, 4, none⟩ = some (.slice An1 n1.names.length cn1) ∧ wr.cell? ⟨g1, 5, none⟩ = some (.slice Ak1 k1.len ck1)) ∧ (wr.cell? ⟨g2, 0, none⟩ = some (.int .i64 n2.kind) ∧ wr.cell? ⟨g2, 1, none⟩ = some (.int .i64 n2.int) ∧ wr.cell? ⟨g2, 2, none⟩ = some (.int .i64 n2.scale) ∧ wr.cell? ⟨g2, 3, none⟩ = some (.string (str n2.text)) ∧ wr.cell? ⟨g2, 4, none⟩ = some (.slice An2 n2.names.length cn2) ∧ wr.cell? ⟨g2, 5, none⟩ = some (.slice Ak2 k2.len ck2)) ∧ St w [⟨g0, n0, k0, An0, cn0, Ak0, ck0⟩, ⟨g1, n1, k1, An1, cn1, Ak1, ck1⟩, ⟨g2, n2, k2, An2, cn2, Ak2, ck2⟩] wr) : St w [⟨g0, n0, k0, An0, cn0, Ak0, ck0⟩, ⟨g1, n1, k1, An1, cn1, Ak1, ck1⟩, ⟨g2, n2, k2, An2, cn2, Ak2, ck2⟩] wr := h.2.2.2
set_option maxRecDepth 100000 in
set_option maxHeartbeats 6400000 in
theorem valueOrder_walk (n0 : Nd) (k0 : F) (v0 : Value) (n1 : Nd) (k1 : F) (v1 : Value) (n2 : Nd) (k2 : F) (v2 : Value) (w : World) (hv0 : Vo w (· < w.heap.size) n0 k0 v0) (hv1 : Vo w (· < w.heap.size) n1 k1 v1) (hv2 : Vo w (· < w.heap.size) n2 k2 v2) :
    Calls Try.prog 5 #[v0, v1, v2] w (Ret (.bool true) w) := by
  have hh : Hid (∀ (A : Option Addr) (w : World), Kids w (· < w.heap.size) A (.cons n0 k0 (.cons n1 k1 (.cons n2 k2 .nil))) → Calls Try.prog 7 #[.slice A 3 3] w (Ret (.bool (heavyF (.cons n0 k0 (.cons n1 k1 (.cons n2 k2 .nil))))) w)) := fun A w h => heavy_any A (.cons n0 k0 (.cons n1 k1 (.cons n2 k2 .nil))) 3 w ⟨by simp [F.len], by simp [F.len]⟩ h
  obtain ⟨An0, cn0, Ak0, ck0, rfl, _, _, _, _, _⟩ := id hv0
  obtain ⟨An1, cn1, Ak1, ck1, rfl, _, _, _, _, _⟩ := id hv1
  obtain ⟨An2, cn2, Ak2, ck2, rfl, _, _, _, _, _⟩ := id hv2
  have ST : St w [⟨w.heap.size, n0, k0, An0, cn0, Ak0, ck0⟩, ⟨(w.heap.size + 1), n1, k1, An1, cn1, Ak1, ck1⟩, ⟨(w.heap.size + 1 + 1), n2, k2, An2, cn2, Ak2, ck2⟩] (((w.alloc (.cells #[.int .i64 n0.kind, .int .i64 n0.int, .int .i64 n0.scale, .string (str n0.text), .slice An0 n0.names.length cn0, .slice Ak0 k0.len ck0] 25)).alloc (.cells #[.int .i64 n1.kind, .int .i64 n1.int, .int .i64 n1.scale, .string (str n1.text), .slice An1 n1.names.length cn1, .slice Ak1 k1.len ck1] 25)).alloc (.cells #[.int .i64 n2.kind, .int .i64 n2.int, .int .i64 n2.scale, .string (str n2.text), .slice An2 n2.names.length cn2, .slice Ak2 k2.len ck2] 25)) := by
    have := (St.box_new (St.box_new (St.box_new (St.nil w) hv0) hv1) hv2)
    simpa [ncells] using this
  generalize hW : (((w.alloc (.cells #[.int .i64 n0.kind, .int .i64 n0.int, .int .i64 n0.scale, .string (str n0.text), .slice An0 n0.names.length cn0, .slice Ak0 k0.len ck0] 25)).alloc (.cells #[.int .i64 n1.kind, .int .i64 n1.int, .int .i64 n1.scale, .string (str n1.text), .slice An1 n1.names.length cn1, .slice Ak1 k1.len ck1] 25)).alloc (.cells #[.int .i64 n2.kind, .int .i64 n2.int, .int .i64 n2.scale, .string (str n2.text), .slice An2 n2.names.length cn2, .slice Ak2 k2.len ck2] 25)) = W at *
  have hv : heavyF (.cons n0 k0 (.cons n1 k1 (.cons n2 k2 .nil))) = heavyF (.cons n0 k0 (.cons n1 k1 (.cons n2 k2 .nil))) := rfl
  generalize hHV : heavyF (.cons n0 k0 (.cons n1 k1 (.cons n2 k2 .nil))) = hvy at *
  clear hv hHV
  have ST0 := Lib.hid ST
  obtain ⟨x00, x01, x02, x03, x04, x05⟩ : Six0 W w.heap.size n0 An0 cn0 Ak0 k0.len ck0 := ST.six 0 rfl
  have xlt0 : w.heap.size < W.heap.size := ST.lt 0 rfl
  obtain ⟨x10, x11, x12, x13, x14, x15⟩ : Six0 W (w.heap.size + 1) n1 An1 cn1 Ak1 k1.len ck1 := ST.six 1 rfl
  have xlt1 : (w.heap.size + 1) < W.heap.size := ST.lt 1 rfl
  obtain ⟨x20, x21, x22, x23, x24, x25⟩ : Six0 W (w.heap.size + 1 + 1) n2 An2 cn2 Ak2 k2.len ck2 := ST.six 2 rfl
  have xlt2 : (w.heap.size + 1 + 1) < W.heap.size := ST.lt 2 rfl
  clear ST hv0 hv1 hv2
  unfold ncells
  go_enter Try.func5, Try.ntmps5
  go_wp2_with fail
  have hkd := kids_new (Vo.kc (ST0.out.v 0 rfl) (Vo.kc (ST0.out.v 1 rfl) (Vo.kc (ST0.out.v 2 rfl) (show Kc W (· < W.heap.size) F.nil [] from rfl)))) (fun b hb => hb) 25
  generalize hA : W.alloc (.cells #[.int .i64 n0.kind, .int .i64 n0.int, .int .i64 n0.scale, .string (str n0.text), .slice An0 n0.names.length cn0, .slice Ak0 k0.len ck0, .int .i64 n1.kind, .int .i64 n1.int, .int .i64 n1.scale, .string (str n1.text), .slice An1 n1.names.length cn1, .slice Ak1 k1.len ck1, .int .i64 n2.kind, .int .i64 n2.int, .int .i64 n2.scale, .string (str n2.text), .slice An2 n2.names.length cn2, .slice Ak2 k2.len ck2] 25) = Wa
  have ba : Below W.heap.size W Wa := by rw [← hA]; exact (Below.refl _ _).alloc (Nat.le_refl _) _
  have HK : Hid (Kids Wa (· < Wa.heap.size) (some ⟨W.heap.size, 0, none⟩) (.cons n0 k0 (.cons n1 k1 (.cons n2 k2 .nil)))) := by show Kids _ _ _ _; rw [← hA]; simpa [ncells] using hkd
  clear hkd hA x00 x01 x02 x03 x04 x05 x10 x11 x12 x13 x14 x15 x20 x21 x22 x23 x24 x25 xlt0 xlt1 xlt2
  refine ((unhide hh) _ _ HK.out).mono ?_
  rintro e w2 ⟨rfl, b2⟩
  have ST2 := Lib.hid (ST0.out.step (bseq ba b2))
  clear ST0 HK ba b2 hW hh
  rcases hvy with _ | _
  rotate_left
  · go_wp2_with fail
    go_ret
    exact ⟨rfl, ST2.out.1⟩
  have HR0 : Hid (∀ wr, St w [⟨w.heap.size, n0, k0, An0, cn0, Ak0, ck0⟩, ⟨(w.heap.size + 1), n1, k1, An1, cn1, Ak1, ck1⟩, ⟨(w.heap.size + 1 + 1), n2, k2, An2, cn2, Ak2, ck2⟩] wr → Calls Try.prog 12 #[.agg #[.int .i64 n0.kind, .int .i64 n0.int, .int .i64 n0.scale, .string (str n0.text), .slice An0 n0.names.length cn0, .slice Ak0 k0.len ck0]] wr (Ret (.int .i64 (chk n0 k0 1 : Int)) wr)) := fun wr h => RCheck_any n0 k0 _ wr (h.v 0 rfl)
  have HR1 : Hid (∀ wr, St w [⟨w.heap.size, n0, k0, An0, cn0, Ak0, ck0⟩, ⟨(w.heap.size + 1), n1, k1, An1, cn1, Ak1, ck1⟩, ⟨(w.heap.size + 1 + 1), n2, k2, An2, cn2, Ak2, ck2⟩] wr → Calls Try.prog 12 #[.agg #[.int .i64 n1.kind, .int .i64 n1.int, .int .i64 n1.scale, .string (str n1.text), .slice An1 n1.names.length cn1, .slice Ak1 k1.len ck1]] wr (Ret (.int .i64 (chk n1 k1 1 : Int)) wr)) := fun wr h => RCheck_any n1 k1 _ wr (h.v 1 rfl)
  have HR2 : Hid (∀ wr, St w [⟨w.heap.size, n0, k0, An0, cn0, Ak0, ck0⟩, ⟨(w.heap.size + 1), n1, k1, An1, cn1, Ak1, ck1⟩, ⟨(w.heap.size + 1 + 1), n2, k2, An2, cn2, Ak2, ck2⟩] wr → Calls Try.prog 12 #[.agg #[.int .i64 n2.kind, .int .i64 n2.int, .int .i64 n2.scale, .string (str n2.text), .slice An2 n2.names.length cn2, .slice Ak2 k2.len ck2]] wr (Ret (.int .i64 (chk n2 k2 1 : Int)) wr)) := fun wr h => RCheck_any n2 k2 _ wr (h.v 2 rfl)
  obtain ⟨x00, x01, x02, x03, x04, x05⟩ : Six0 w2 w.heap.size n0 An0 cn0 Ak0 k0.len ck0 := ST2.out.six 0 rfl
  have xlt0 : w.heap.size < w2.heap.size := ST2.out.lt 0 rfl
  obtain ⟨x10, x11, x12, x13, x14, x15⟩ : Six0 w2 (w.heap.size + 1) n1 An1 cn1 Ak1 k1.len ck1 := ST2.out.six 1 rfl
  have xlt1 : (w.heap.size + 1) < w2.heap.size := ST2.out.lt 1 rfl
  obtain ⟨x20, x21, x22, x23, x24, x25⟩ : Six0 w2 (w.heap.size + 1 + 1) n2 An2 cn2 Ak2 k2.len ck2 := ST2.out.six 2 rfl
  have xlt2 : (w.heap.size + 1 + 1) < w2.heap.size := ST2.out.lt 2 rfl
  go_wp2_with fail
  clear x00 x01 x02 x03 x04 x05 x10 x11 x12 x13 x14 x15 x20 x21 x22 x23 x24 x25 xlt0 xlt1 xlt2
  refine (HR0.out _ ST2.out).mono ?_
  rintro e w3 ⟨rfl, b3⟩
  have ST3 := Lib.hid (ST2.out.step b3)
  clear ST2 b3 HR0
  by_cases hc0 : chk n0 k0 1 = 0
  rotate_left
  · have q : ((chk n0 k0 1 : Int) != 0) = true := by simp [hc0]
    clear hc0
    obtain ⟨x00, x01, x02, x03, x04, x05⟩ : Six0 w3 w.heap.size n0 An0 cn0 Ak0 k0.len ck0 := ST3.out.six 0 rfl
    have xlt0 : w.heap.size < w3.heap.size := ST3.out.lt 0 rfl
    obtain ⟨x10, x11, x12, x13, x14, x15⟩ : Six0 w3 (w.heap.size + 1) n1 An1 cn1 Ak1 k1.len ck1 := ST3.out.six 1 rfl
    have xlt1 : (w.heap.size + 1) < w3.heap.size := ST3.out.lt 1 rfl
    obtain ⟨x20, x21, x22, x23, x24, x25⟩ : Six0 w3 (w.heap.size + 1 + 1) n2 An2 cn2 Ak2 k2.len ck2 := ST3.out.six 2 rfl
    have xlt2 : (w.heap.size + 1 + 1) < w3.heap.size := ST3.out.lt 2 rfl
    go_wp2_with fail
    go_ret
    exact ⟨rfl, ST3.out.1⟩
  have C0 := Lib.hid hc0
  have q0 : ((chk n0 k0 1 : Int) != 0) = false := by simp [hc0]
  clear hc0
  obtain ⟨x00, x01, x02, x03, x04, x05⟩ : Six0 w3 w.heap.size n0 An0 cn0 Ak0 k0.len ck0 := ST3.out.six 0 rfl
  have xlt0 : w.heap.size < w3.heap.size := ST3.out.lt 0 rfl
  obtain ⟨x10, x11, x12, x13, x14, x15⟩ : Six0 w3 (w.heap.size + 1) n1 An1 cn1 Ak1 k1.len ck1 := ST3.out.six 1 rfl
  have xlt1 : (w.heap.size + 1) < w3.heap.size := ST3.out.lt 1 rfl
  obtain ⟨x20, x21, x22, x23, x24, x25⟩ : Six0 w3 (w.heap.size + 1 + 1) n2 An2 cn2 Ak2 k2.len ck2 := ST3.out.six 2 rfl
  have xlt2 : (w.heap.size + 1 + 1) < w3.heap.size := ST3.out.lt 2 rfl
  go_wp2_with fail
  clear x00 x01 x02 x03 x04 x05 x10 x11 x12 x13 x14 x15 x20 x21 x22 x23 x24 x25 xlt0 xlt1 xlt2
  refine (HR1.out _ ST3.out).mono ?_
  rintro e w4 ⟨rfl, b4⟩
  have ST4 := Lib.hid (ST3.out.step b4)
  clear ST3 b4 HR1
  by_cases hc1 : chk n1 k1 1 = 0
  rotate_left
  · have q : ((chk n1 k1 1 : Int) != 0) = true := by simp [hc1]
    clear hc1
    obtain ⟨x00, x01, x02, x03, x04, x05⟩ : Six0 w4 w.heap.size n0 An0 cn0 Ak0 k0.len ck0 := ST4.out.six 0 rfl
    have xlt0 : w.heap.size < w4.heap.size := ST4.out.lt 0 rfl
    obtain ⟨x10, x11, x12, x13, x14, x15⟩ : Six0 w4 (w.heap.size + 1) n1 An1 cn1 Ak1 k1.len ck1 := ST4.out.six 1 rfl
    have xlt1 : (w.heap.size + 1) < w4.heap.size := ST4.out.lt 1 rfl
    obtain ⟨x20, x21, x22, x23, x24, x25⟩ : Six0 w4 (w.heap.size + 1 + 1) n2 An2 cn2 Ak2 k2.len ck2 := ST4.out.six 2 rfl
    have xlt2 : (w.heap.size + 1 + 1) < w4.heap.size := ST4.out.lt 2 rfl
    go_wp2_with fail
    go_ret
    exact ⟨rfl, ST4.out.1⟩
  have C1 := Lib.hid hc1
  have q1 : ((chk n1 k1 1 : Int) != 0) = false := by simp [hc1]
  clear hc1
  obtain ⟨x00, x01, x02, x03, x04, x05⟩ : Six0 w4 w.heap.size n0 An0 cn0 Ak0 k0.len ck0 := ST4.out.six 0 rfl
  have xlt0 : w.heap.size < w4.heap.size := ST4.out.lt 0 rfl
  obtain ⟨x10, x11, x12, x13, x14, x15⟩ : Six0 w4 (w.heap.size + 1) n1 An1 cn1 Ak1 k1.len ck1 := ST4.out.six 1 rfl
  have xlt1 : (w.heap.size + 1) < w4.heap.size := ST4.out.lt 1 rfl
  obtain ⟨x20, x21, x22, x23, x24, x25⟩ : Six0 w4 (w.heap.size + 1 + 1) n2 An2 cn2 Ak2 k2.len ck2 := ST4.out.six 2 rfl
  have xlt2 : (w.heap.size + 1 + 1) < w4.heap.size := ST4.out.lt 2 rfl
  go_wp2_with fail
  clear x00 x01 x02 x03 x04 x05 x10 x11 x12 x13 x14 x15 x20 x21 x22 x23 x24 x25 xlt0 xlt1 xlt2
  refine (HR2.out _ ST4.out).mono ?_
  rintro e w5 ⟨rfl, b5⟩
  have ST5 := Lib.hid (ST4.out.step b5)
  clear ST4 b5 HR2
  by_cases hc2 : chk n2 k2 1 = 0
  rotate_left
  · have q : ((chk n2 k2 1 : Int) != 0) = true := by simp [hc2]
    clear hc2
    obtain ⟨x00, x01, x02, x03, x04, x05⟩ : Six0 w5 w.heap.size n0 An0 cn0 Ak0 k0.len ck0 := ST5.out.six 0 rfl
    have xlt0 : w.heap.size < w5.heap.size := ST5.out.lt 0 rfl
    obtain ⟨x10, x11, x12, x13, x14, x15⟩ : Six0 w5 (w.heap.size + 1) n1 An1 cn1 Ak1 k1.len ck1 := ST5.out.six 1 rfl
    have xlt1 : (w.heap.size + 1) < w5.heap.size := ST5.out.lt 1 rfl
    obtain ⟨x20, x21, x22, x23, x24, x25⟩ : Six0 w5 (w.heap.size + 1 + 1) n2 An2 cn2 Ak2 k2.len ck2 := ST5.out.six 2 rfl
    have xlt2 : (w.heap.size + 1 + 1) < w5.heap.size := ST5.out.lt 2 rfl
    go_wp2_with fail
    go_ret
    exact ⟨rfl, ST5.out.1⟩
  have C2 := Lib.hid hc2
  have q2 : ((chk n2 k2 1 : Int) != 0) = false := by simp [hc2]
  clear hc2
  have HA1 : Hid (∀ wr, St w [⟨w.heap.size, n0, k0, An0, cn0, Ak0, ck0⟩, ⟨(w.heap.size + 1), n1, k1, An1, cn1, Ak1, ck1⟩, ⟨(w.heap.size + 1 + 1), n2, k2, An2, cn2, Ak2, ck2⟩] wr → Calls Try.prog 15 #[.agg #[.int .i64 n0.kind, .int .i64 n0.int, .int .i64 n0.scale, .string (str n0.text), .slice An0 n0.names.length cn0, .slice Ak0 k0.len ck0], .agg #[.int .i64 n1.kind, .int .i64 n1.int, .int .i64 n1.scale, .string (str n1.text), .slice An1 n1.names.length cn1, .slice Ak1 k1.len ck1]] wr (Ret (.int .i64 (cmpV n0 k0 n1 k1)) wr)) := fun wr h => by have := Compare_any n0 k0 n1 k1 _ _ wr (h.v 0 rfl) (h.v 1 rfl); unfold cmpP at this; rw [if_pos C0.out, if_pos C1.out] at this; exact this
  have HA2 : Hid (∀ wr, St w [⟨w.heap.size, n0, k0, An0, cn0, Ak0, ck0⟩, ⟨(w.heap.size + 1), n1, k1, An1, cn1, Ak1, ck1⟩, ⟨(w.heap.size + 1 + 1), n2, k2, An2, cn2, Ak2, ck2⟩] wr → Calls Try.prog 15 #[.agg #[.int .i64 n1.kind, .int .i64 n1.int, .int .i64 n1.scale, .string (str n1.text), .slice An1 n1.names.length cn1, .slice Ak1 k1.len ck1], .agg #[.int .i64 n2.kind, .int .i64 n2.int, .int .i64 n2.scale, .string (str n2.text), .slice An2 n2.names.length cn2, .slice Ak2 k2.len ck2]] wr (Ret (.int .i64 (cmpV n1 k1 n2 k2)) wr)) := fun wr h => by have := Compare_any n1 k1 n2 k2 _ _ wr (h.v 1 rfl) (h.v 2 rfl); unfold cmpP at this; rw [if_pos C1.out, if_pos C2.out] at this; exact this
  have HA3 : Hid (∀ wr, St w [⟨w.heap.size, n0, k0, An0, cn0, Ak0, ck0⟩, ⟨(w.heap.size + 1), n1, k1, An1, cn1, Ak1, ck1⟩, ⟨(w.heap.size + 1 + 1), n2, k2, An2, cn2, Ak2, ck2⟩] wr → Calls Try.prog 15 #[.agg #[.int .i64 n0.kind, .int .i64 n0.int, .int .i64 n0.scale, .string (str n0.text), .slice An0 n0.names.length cn0, .slice Ak0 k0.len ck0], .agg #[.int .i64 n2.kind, .int .i64 n2.int, .int .i64 n2.scale, .string (str n2.text), .slice An2 n2.names.length cn2, .slice Ak2 k2.len ck2]] wr (Ret (.int .i64 (cmpV n0 k0 n2 k2)) wr)) := fun wr h => by have := Compare_any n0 k0 n2 k2 _ _ wr (h.v 0 rfl) (h.v 2 rfl); unfold cmpP at this; rw [if_pos C0.out, if_pos C2.out] at this; exact this
  have HA4 : Hid (∀ wr, St w [⟨w.heap.size, n0, k0, An0, cn0, Ak0, ck0⟩, ⟨(w.heap.size + 1), n1, k1, An1, cn1, Ak1, ck1⟩, ⟨(w.heap.size + 1 + 1), n2, k2, An2, cn2, Ak2, ck2⟩] wr → Calls Try.prog 15 #[.agg #[.int .i64 n1.kind, .int .i64 n1.int, .int .i64 n1.scale, .string (str n1.text), .slice An1 n1.names.length cn1, .slice Ak1 k1.len ck1], .agg #[.int .i64 n0.kind, .int .i64 n0.int, .int .i64 n0.scale, .string (str n0.text), .slice An0 n0.names.length cn0, .slice Ak0 k0.len ck0]] wr (Ret (.int .i64 (-(cmpV n0 k0 n1 k1))) wr)) := fun wr h => by have := Compare_any n1 k1 n0 k0 _ _ wr (h.v 1 rfl) (h.v 0 rfl); unfold cmpP at this; rw [if_pos C1.out, if_pos C0.out] at this; rw [cmpV_neg] at this; exact this
  have HA5 : Hid (∀ wr, St w [⟨w.heap.size, n0, k0, An0, cn0, Ak0, ck0⟩, ⟨(w.heap.size + 1), n1, k1, An1, cn1, Ak1, ck1⟩, ⟨(w.heap.size + 1 + 1), n2, k2, An2, cn2, Ak2, ck2⟩] wr → Calls Try.prog 15 #[.agg #[.int .i64 n0.kind, .int .i64 n0.int, .int .i64 n0.scale, .string (str n0.text), .slice An0 n0.names.length cn0, .slice Ak0 k0.len ck0], .agg #[.int .i64 n0.kind, .int .i64 n0.int, .int .i64 n0.scale, .string (str n0.text), .slice An0 n0.names.length cn0, .slice Ak0 k0.len ck0]] wr (Ret (.int .i64 0) wr)) := fun wr h => by have := Compare_any n0 k0 n0 k0 _ _ wr (h.v 0 rfl) (h.v 0 rfl); unfold cmpP at this; rw [if_pos C0.out, if_pos C0.out] at this; rw [cmpV_self] at this; exact this
  have HA6 : Hid (∀ wr, St w [⟨w.heap.size, n0, k0, An0, cn0, Ak0, ck0⟩, ⟨(w.heap.size + 1), n1, k1, An1, cn1, Ak1, ck1⟩, ⟨(w.heap.size + 1 + 1), n2, k2, An2, cn2, Ak2, ck2⟩] wr → Calls Try.prog 17 #[.agg #[.int .i64 n0.kind, .int .i64 n0.int, .int .i64 n0.scale, .string (str n0.text), .slice An0 n0.names.length cn0, .slice Ak0 k0.len ck0], .agg #[.int .i64 n1.kind, .int .i64 n1.int, .int .i64 n1.scale, .string (str n1.text), .slice An1 n1.names.length cn1, .slice Ak1 k1.len ck1]] wr (Ret (.bool (cmpV n0 k0 n1 k1 == 0)) wr)) := fun wr h => by have := Same_any n0 k0 n1 k1 _ _ wr (h.v 0 rfl) (h.v 1 rfl); unfold sameP at this; rw [if_pos C0.out, if_pos C1.out, cmpV_same C0.out C1.out] at this; exact this
  have htr : Hid (Tr (cmpV n0 k0 n1 k1) (cmpV n1 k1 n2 k2) (cmpV n0 k0 n2 k2)) := cmpV_tr n0 k0 n1 k1 n2 k2
  have hx := cmpV_small n0 k0 n1 k1
  have hy := cmpV_small n1 k1 n2 k2
  have hz := cmpV_small n0 k0 n2 k2
  generalize cmpV n0 k0 n1 k1 = x at *
  generalize cmpV n1 k1 n2 k2 = y at *
  generalize cmpV n0 k0 n2 k2 = z at *
  obtain ⟨hx1, hx2⟩ := hx
  obtain ⟨hy1, hy2⟩ := hy
  obtain ⟨hz1, hz2⟩ := hz
  have st5 := ST5.out
  obtain ⟨x00, x01, x02, x03, x04, x05⟩ : Six0 w5 w.heap.size n0 An0 cn0 Ak0 k0.len ck0 := st5.six 0 rfl
  have xlt0 : w.heap.size < w5.heap.size := st5.lt 0 rfl
  obtain ⟨x10, x11, x12, x13, x14, x15⟩ : Six0 w5 (w.heap.size + 1) n1 An1 cn1 Ak1 k1.len ck1 := st5.six 1 rfl
  have xlt1 : (w.heap.size + 1) < w5.heap.size := st5.lt 1 rfl
  obtain ⟨x20, x21, x22, x23, x24, x25⟩ : Six0 w5 (w.heap.size + 1 + 1) n2 An2 cn2 Ak2 k2.len ck2 := st5.six 2 rfl
  have xlt2 : (w.heap.size + 1 + 1) < w5.heap.size := st5.lt 2 rfl
  clear ST5
  have tok0 : True := trivial
  have tok1 : True := trivial
  have tok2 : True := trivial
  go_wp2_with fail
  go_region_held3 (fun wr => (wr.cell? ⟨w.heap.size, 0, none⟩ = some (.int .i64 n0.kind) ∧ wr.cell? ⟨w.heap.size, 1, none⟩ = some (.int .i64 n0.int) ∧ wr.cell? ⟨w.heap.size, 2, none⟩ = some (.int .i64 n0.scale) ∧ wr.cell? ⟨w.heap.size, 3, none⟩ = some (.string (str n0.text)) ∧ wr.cell? ⟨w.heap.size, 4, none⟩ = some (.slice An0 n0.names.length cn0) ∧ wr.cell? ⟨w.heap.size, 5, none⟩ = some (.slice Ak0 k0.len ck0)) ∧ (wr.cell? ⟨(w.heap.size + 1), 0, none⟩ = some (.int .i64 n1.kind) ∧ wr.cell? ⟨(w.heap.size + 1), 1, none⟩ = some (.int .i64 n1.int) ∧ wr.cell? ⟨(w.heap.size + 1), 2, none⟩ = some (.int .i64 n1.scale) ∧ wr.cell? ⟨(w.heap.size + 1), 3, none⟩ = some (.string (str n1.text)) ∧ wr.cell? ⟨(w.heap.size + 1), 4, none⟩ = some (.slice An1 n1.names.length cn1) ∧ wr.cell? ⟨(w.heap.size + 1), 5, none⟩ = some (.slice Ak1 k1.len ck1)) ∧ (wr.cell? ⟨(w.heap.size + 1 + 1), 0, none⟩ = some (.int .i64 n2.kind) ∧ wr.cell? ⟨(w.heap.size + 1 + 1), 1, none⟩ = some (.int .i64 n2.int) ∧ wr.cell? ⟨(w.heap.size + 1 + 1), 2, none⟩ = some (.int .i64 n2.scale) ∧ wr.cell? ⟨(w.heap.size + 1 + 1), 3, none⟩ = some (.string (str n2.text)) ∧ wr.cell? ⟨(w.heap.size + 1 + 1), 4, none⟩ = some (.slice An2 n2.names.length cn2) ∧ wr.cell? ⟨(w.heap.size + 1 + 1), 5, none⟩ = some (.slice Ak2 k2.len ck2)) ∧ St w [⟨w.heap.size, n0, k0, An0, cn0, Ak0, ck0⟩, ⟨(w.heap.size + 1), n1, k1, An1, cn1, Ak1, ck1⟩, ⟨(w.heap.size + 1 + 1), n2, k2, An2, cn2, Ak2, ck2⟩] wr)
    (first
      | exact vo3_all (St.step (vo3_in (by assumption)) (by assumption))
      | exact vo3_all (St.drew st5)
      | exact vo3_all (St.drew (vo3_in (by assumption)))
      | exact vo3_all (vo3_in (by assumption)))
    (first
      | (go_at_call 15; have _t := tok0; clear _t tok0; refine ((unhide HA1) _ (vo3_in (by assumption))).mono ?_; rintro e w' ⟨rfl, b⟩)
      | (go_at_call 15; have _t := tok1; clear _t tok1; refine ((unhide HA2) _ (vo3_in (by assumption))).mono ?_; rintro e w' ⟨rfl, b⟩)
      | (go_at_call 15; have _t := tok2; clear _t tok2; refine ((unhide HA3) _ (vo3_in (by assumption))).mono ?_; rintro e w' ⟨rfl, b⟩))
  clear x00 x01 x02 x03 x04 x05 x10 x11 x12 x13 x14 x15 x20 x21 x22 x23 x24 x25 xlt0 xlt1 xlt2 st5
  have st6 := vo3_in (w := w) (n0 := n0) (k0 := k0) (An0 := An0) (cn0 := cn0) (Ak0 := Ak0) (ck0 := ck0) (g0 := w.heap.size) (n1 := n1) (k1 := k1) (An1 := An1) (cn1 := cn1) (Ak1 := Ak1) (ck1 := ck1) (g1 := (w.heap.size + 1)) (n2 := n2) (k2 := k2) (An2 := An2) (cn2 := cn2) (Ak2 := Ak2) (ck2 := ck2) (g2 := (w.heap.size + 1 + 1)) (by assumption)
  have ST6 := Lib.hid st6
  obtain ⟨x00, x01, x02, x03, x04, x05⟩ : Six0 w' w.heap.size n0 An0 cn0 Ak0 k0.len ck0 := st6.six 0 rfl
  have xlt0 : w.heap.size < w'.heap.size := st6.lt 0 rfl
  obtain ⟨x10, x11, x12, x13, x14, x15⟩ : Six0 w' (w.heap.size + 1) n1 An1 cn1 Ak1 k1.len ck1 := st6.six 1 rfl
  have xlt1 : (w.heap.size + 1) < w'.heap.size := st6.lt 1 rfl
  obtain ⟨x20, x21, x22, x23, x24, x25⟩ : Six0 w' (w.heap.size + 1 + 1) n2 An2 cn2 Ak2 k2.len ck2 := st6.six 2 rfl
  have xlt2 : (w.heap.size + 1 + 1) < w'.heap.size := st6.lt 2 rfl
  clear st6
  go_wp2_with fail
  clear x00 x01 x02 x03 x04 x05 x10 x11 x12 x13 x14 x15 x20 x21 x22 x23 x24 x25 xlt0 xlt1 xlt2
  refine (HA4.out _ ST6.out).mono ?_
  rintro e w7 ⟨rfl, b7⟩
  have ST7 := Lib.hid (ST6.out.step b7)
  clear ST6 b7
  obtain ⟨x00, x01, x02, x03, x04, x05⟩ : Six0 w7 w.heap.size n0 An0 cn0 Ak0 k0.len ck0 := ST7.out.six 0 rfl
  have xlt0 : w.heap.size < w7.heap.size := ST7.out.lt 0 rfl
  obtain ⟨x10, x11, x12, x13, x14, x15⟩ : Six0 w7 (w.heap.size + 1) n1 An1 cn1 Ak1 k1.len ck1 := ST7.out.six 1 rfl
  have xlt1 : (w.heap.size + 1) < w7.heap.size := ST7.out.lt 1 rfl
  obtain ⟨x20, x21, x22, x23, x24, x25⟩ : Six0 w7 (w.heap.size + 1 + 1) n2 An2 cn2 Ak2 k2.len ck2 := ST7.out.six 2 rfl
  have xlt2 : (w.heap.size + 1 + 1) < w7.heap.size := ST7.out.lt 2 rfl
  go_wp2_with fail
  clear x00 x01 x02 x03 x04 x05 x10 x11 x12 x13 x14 x15 x20 x21 x22 x23 x24 x25 xlt0 xlt1 xlt2
  refine (HA6.out _ ST7.out).mono ?_
  rintro e w8 ⟨rfl, b8⟩
  have ST8 := Lib.hid (ST7.out.step b8)
  clear ST7 b8
  have z3 : ((x == 0) != (x == 0)) = false := by simp
  obtain ⟨x00, x01, x02, x03, x04, x05⟩ : Six0 w8 w.heap.size n0 An0 cn0 Ak0 k0.len ck0 := ST8.out.six 0 rfl
  have xlt0 : w.heap.size < w8.heap.size := ST8.out.lt 0 rfl
  obtain ⟨x10, x11, x12, x13, x14, x15⟩ : Six0 w8 (w.heap.size + 1) n1 An1 cn1 Ak1 k1.len ck1 := ST8.out.six 1 rfl
  have xlt1 : (w.heap.size + 1) < w8.heap.size := ST8.out.lt 1 rfl
  obtain ⟨x20, x21, x22, x23, x24, x25⟩ : Six0 w8 (w.heap.size + 1 + 1) n2 An2 cn2 Ak2 k2.len ck2 := ST8.out.six 2 rfl
  have xlt2 : (w.heap.size + 1 + 1) < w8.heap.size := ST8.out.lt 2 rfl
  go_wp2_with fail
  clear x00 x01 x02 x03 x04 x05 x10 x11 x12 x13 x14 x15 x20 x21 x22 x23 x24 x25 xlt0 xlt1 xlt2 z3
  refine (HA5.out _ ST8.out).mono ?_
  rintro e w9 ⟨rfl, b9⟩
  have ST9 := Lib.hid (ST8.out.step b9)
  clear ST8 b9
  by_cases hxx : x ≤ 0
  rotate_left
  · go_wp2_with fail
    refine (known5_any _).mono ?_
    rintro e w10 ⟨rfl, b10⟩
    go_wp2_with fail
    go_ret
    exact ⟨rfl, (ST9.out.step b10).1⟩
  by_cases hyy : y ≤ 0
  rotate_left
  · go_wp2_with fail
    refine (known5_any _).mono ?_
    rintro e w10 ⟨rfl, b10⟩
    go_wp2_with fail
    go_ret
    exact ⟨rfl, (ST9.out.step b10).1⟩
  obtain ⟨t1, t2⟩ := htr.out.1 hxx hyy
  have t3 : ¬ (0 < z) := by omega
  by_cases hzz : z = 0
  · obtain ⟨e1, e2⟩ := t2 hzz
    have e3 : ¬ (x < 0) := by omega
    have e4 : ¬ (y < 0) := by omega
    have e5 : (z == 0) = true := by simpa using hzz
    clear t2 hzz e1 e2
    go_wp2_with fail
    refine (known5_any _).mono ?_
    rintro e w10 ⟨rfl, b10⟩
    go_wp2_with fail
    go_ret
    exact ⟨rfl, (ST9.out.step b10).1⟩
  · have e5 : (z == 0) = false := by simpa using hzz
    clear t2 hzz
    go_wp2_with fail
    refine (known5_any _).mono ?_
    rintro e w10 ⟨rfl, b10⟩
    go_wp2_with fail
    go_ret
    exact ⟨rfl, (ST9.out.step b10).1⟩
end Go.Proofs.Ytfcbcbpnlnkpcaa

/- scrivenerref5.Compare, value.Same, scrivenerref5.Same. (Printed by a small program of mine, gen/pub5.py.) -/
import Derived.Test.YtfcbcbpnlnkpcaaComparep
import Derived.Test.YtfcbcbpnlnkpcaaROrder
import Derived.Test.YtfcbcbpnlnkpcaaSame5
import Derived.Test.YtfcbcbpnlnkpcaaRcheck
namespace Go.Proofs.Ytfcbcbpnlnkpcaa
set_option linter.all false
open Go.RowKit
/-- Are two values one, and values? -/
def sameP (n : Nd) (k : F) (m : Nd) (q : F) : Bool := if chk n k 1 = 0 then if chk m q 1 = 0 then eqV n k m q else false else false
set_option maxRecDepth 100000 in
set_option maxHeartbeats 3200000 in
theorem RCompare_any (n : Nd) (k : F) (m : Nd) (q : F) (v u : Value) (w : World) (hv : Vo w (· < w.heap.size) n k v) (hu : Vo w (· < w.heap.size) m q u) :
    Calls Try.prog 16 #[v, u] w (Ret (.int .i64 (cmpP n k m q)) w) := by
  have hc1 : Hid (∀ (v : Value) (w : World), Vo w (· < w.heap.size) n k v → Calls Try.prog 12 #[v] w (Ret (.int .i64 (chk n k 1 : Int)) w)) := fun v w h => RCheck_any n k v w h
  have hc2 : Hid (∀ (v : Value) (w : World), Vo w (· < w.heap.size) m q v → Calls Try.prog 12 #[v] w (Ret (.int .i64 (chk m q 1 : Int)) w)) := fun v w h => RCheck_any m q v w h
  have hc3 : Hid (chk n k 1 = 0 → chk m q 1 = 0 → ∀ (v u : Value) (w : World), Vo w (· < w.heap.size) n k v → Vo w (· < w.heap.size) m q u → Calls Try.prog 30 #[v, u] w (Ret (.int .i64 (cmpV n k m q)) w)) := fun h1 h2 v u w h3 h4 => rord_any n k m q 1 v u w h1 h2 h3 h4
  have HP : Hid (cmpP n k m q = if chk n k 1 = 0 then if chk m q 1 = 0 then cmpV n k m q else 0 else 0) := rfl
  generalize cmpP n k m q = P at *
  generalize cmpV n k m q = V at *
  generalize chk n k 1 = C at *
  generalize chk m q 1 = D at *
  have HV := Lib.hid hv
  have HU := Lib.hid hu
  obtain ⟨An, cn, Ak, ck, rfl, _, _, _, _, _⟩ := hv
  obtain ⟨Bn, dn, Bk, dk, rfl, _, _, _, _, _⟩ := hu
  unfold ncells at *
  have EW := EqW.of_box w n An cn Ak k.len ck m Bn dn Bk q.len dk
  generalize hW : (w.alloc (.cells #[.int .i64 n.kind, .int .i64 n.int, .int .i64 n.scale, .string (str n.text), .slice An n.names.length cn, .slice Ak k.len ck] 25)).alloc (.cells #[.int .i64 m.kind, .int .i64 m.int, .int .i64 m.scale, .string (str m.text), .slice Bn m.names.length dn, .slice Bk q.len dk] 25) = W at *
  have HE := Lib.hid EW
  have hV1 := Lib.hid (HV.out.upto EW.1)
  have hU1 := Lib.hid (HU.out.upto EW.1)
  have hws : w.heap.size + 1 < W.heap.size := EW.2.2.2
  have hws0 : w.heap.size < W.heap.size := Nat.lt_of_succ_lt hws
  obtain ⟨⟨x0, x1, x2, x3, x4, x5⟩, ⟨y0, y1, y2, y3, y4, y5⟩⟩ := EW.cells
  clear EW HV HU
  go_enter Try.func16, Try.ntmps16
  go_wp2_with fail
  clear x0 x1 x2 x3 x4 x5 y0 y1 y2 y3 y4 y5 hW
  refine ((unhide hc1) _ _ hV1.out).mono ?_
  rintro e w1 ⟨rfl, b1⟩
  have E1 := HE.out.below b1
  have HE1 := Lib.hid E1
  have hV2 := Lib.hid (hV1.out.upto b1)
  have hU2 := Lib.hid (hU1.out.upto b1)
  obtain ⟨⟨x0, x1, x2, x3, x4, x5⟩, ⟨y0, y1, y2, y3, y4, y5⟩⟩ := E1.cells
  clear E1 hV1 hU1
  by_cases h1 : C = 0
  · have q1 : ((C : Int) != 0) = false := by simp [h1]
    have H1 := Lib.hid h1
    clear h1
    go_wp2_with fail
    clear x0 x1 x2 x3 x4 x5 y0 y1 y2 y3 y4 y5
    refine ((unhide hc2) _ _ hU2.out).mono ?_
    rintro e w2 ⟨rfl, b2⟩
    have E2 := HE1.out.below b2
    have HE2 := Lib.hid E2
    have hV3 := Lib.hid (hV2.out.upto b2)
    have hU3 := Lib.hid (hU2.out.upto b2)
    obtain ⟨⟨x0, x1, x2, x3, x4, x5⟩, ⟨y0, y1, y2, y3, y4, y5⟩⟩ := E2.cells
    clear E2 hV2 hU2
    by_cases h2 : D = 0
    · have q2 : ((D : Int) != 0) = false := by simp [h2]
      have HR : Hid (P = V) := by show _ = _; rw [HP.out, if_pos H1.out, if_pos h2]
      have H2 := Lib.hid h2
      clear h2 HP
      go_wp2_with fail
      refine (((unhide hc3) H1.out H2.out) _ _ _ hV3.out hU3.out).mono ?_
      rintro e w3 ⟨rfl, b3⟩
      have HE3 := HE2.out.below b3
      clear x0 x1 x2 x3 x4 x5 y0 y1 y2 y3 y4 y5
      go_wp2_with fail
      go_ret
      exact ⟨ret_i (by rw [HR.out]), HE3.1⟩
    · have q2 : ((D : Int) != 0) = true := by simp [h2]
      have HR : Hid (P = 0) := by show _ = _; rw [HP.out, if_pos H1.out, if_neg h2]
      clear h2 HP
      go_wp2_with fail
      go_ret
      exact ⟨ret_i (by rw [HR.out]), HE2.out.1⟩
  · have q1 : ((C : Int) != 0) = true := by simp [h1]
    have HR : Hid (P = 0) := by show _ = _; rw [HP.out, if_neg h1]
    clear h1 HP
    go_wp2_with fail
    go_ret
    exact ⟨ret_i (by rw [HR.out]), HE1.out.1⟩
set_option maxRecDepth 100000 in
set_option maxHeartbeats 3200000 in
theorem Same_any (n : Nd) (k : F) (m : Nd) (q : F) (v u : Value) (w : World) (hv : Vo w (· < w.heap.size) n k v) (hu : Vo w (· < w.heap.size) m q u) :
    Calls Try.prog 17 #[v, u] w (Ret (.bool (sameP n k m q)) w) := by
  have hc1 : Hid (∀ (v : Value) (w : World), Vo w (· < w.heap.size) n k v → Calls Try.prog 11 #[v] w (Ret (.int .i64 (chk n k 1 : Int)) w)) := fun v w h => Check_any n k v w h
  have hc2 : Hid (∀ (v : Value) (w : World), Vo w (· < w.heap.size) m q v → Calls Try.prog 11 #[v] w (Ret (.int .i64 (chk m q 1 : Int)) w)) := fun v w h => Check_any m q v w h
  have hc3 : Hid (chk n k 1 = 0 → chk m q 1 = 0 → ∀ (v u : Value) (w : World), Vo w (· < w.heap.size) n k v → Vo w (· < w.heap.size) m q u → Calls Try.prog 31 #[v, u] w (Ret (.bool (eqV n k m q)) w)) := fun h1 h2 v u w h3 h4 => same_any n k m q v u w h3 h4
  have HP : Hid (sameP n k m q = if chk n k 1 = 0 then if chk m q 1 = 0 then eqV n k m q else false else false) := rfl
  generalize sameP n k m q = P at *
  generalize eqV n k m q = V at *
  generalize chk n k 1 = C at *
  generalize chk m q 1 = D at *
  have HV := Lib.hid hv
  have HU := Lib.hid hu
  obtain ⟨An, cn, Ak, ck, rfl, _, _, _, _, _⟩ := hv
  obtain ⟨Bn, dn, Bk, dk, rfl, _, _, _, _, _⟩ := hu
  unfold ncells at *
  have EW := EqW.of_box w n An cn Ak k.len ck m Bn dn Bk q.len dk
  generalize hW : (w.alloc (.cells #[.int .i64 n.kind, .int .i64 n.int, .int .i64 n.scale, .string (str n.text), .slice An n.names.length cn, .slice Ak k.len ck] 25)).alloc (.cells #[.int .i64 m.kind, .int .i64 m.int, .int .i64 m.scale, .string (str m.text), .slice Bn m.names.length dn, .slice Bk q.len dk] 25) = W at *
  have HE := Lib.hid EW
  have hV1 := Lib.hid (HV.out.upto EW.1)
  have hU1 := Lib.hid (HU.out.upto EW.1)
  have hws : w.heap.size + 1 < W.heap.size := EW.2.2.2
  have hws0 : w.heap.size < W.heap.size := Nat.lt_of_succ_lt hws
  obtain ⟨⟨x0, x1, x2, x3, x4, x5⟩, ⟨y0, y1, y2, y3, y4, y5⟩⟩ := EW.cells
  clear EW HV HU
  go_enter Try.func17, Try.ntmps17
  go_wp2_with fail
  clear x0 x1 x2 x3 x4 x5 y0 y1 y2 y3 y4 y5 hW
  refine ((unhide hc1) _ _ hV1.out).mono ?_
  rintro e w1 ⟨rfl, b1⟩
  have E1 := HE.out.below b1
  have HE1 := Lib.hid E1
  have hV2 := Lib.hid (hV1.out.upto b1)
  have hU2 := Lib.hid (hU1.out.upto b1)
  obtain ⟨⟨x0, x1, x2, x3, x4, x5⟩, ⟨y0, y1, y2, y3, y4, y5⟩⟩ := E1.cells
  clear E1 hV1 hU1
  by_cases h1 : C = 0
  · have q1 : ((C : Int) == 0) = true := by simp [h1]
    have H1 := Lib.hid h1
    clear h1
    go_wp2_with fail
    clear x0 x1 x2 x3 x4 x5 y0 y1 y2 y3 y4 y5
    refine ((unhide hc2) _ _ hU2.out).mono ?_
    rintro e w2 ⟨rfl, b2⟩
    have E2 := HE1.out.below b2
    have HE2 := Lib.hid E2
    have hV3 := Lib.hid (hV2.out.upto b2)
    have hU3 := Lib.hid (hU2.out.upto b2)
    obtain ⟨⟨x0, x1, x2, x3, x4, x5⟩, ⟨y0, y1, y2, y3, y4, y5⟩⟩ := E2.cells
    clear E2 hV2 hU2
    by_cases h2 : D = 0
    · have q2 : ((D : Int) == 0) = true := by simp [h2]
      have HR : Hid (P = V) := by show _ = _; rw [HP.out, if_pos H1.out, if_pos h2]
      have H2 := Lib.hid h2
      clear h2 HP
      go_wp2_with fail
      refine (((unhide hc3) H1.out H2.out) _ _ _ hV3.out hU3.out).mono ?_
      rintro e w3 ⟨rfl, b3⟩
      have HE3 := HE2.out.below b3
      clear x0 x1 x2 x3 x4 x5 y0 y1 y2 y3 y4 y5
      go_wp2_with fail
      go_ret
      exact ⟨ret_bo (by rw [HR.out]), HE3.1⟩
    · have q2 : ((D : Int) == 0) = false := by simp [h2]
      have HR : Hid (P = false) := by show _ = _; rw [HP.out, if_pos H1.out, if_neg h2]
      clear h2 HP
      go_wp2_with fail
      go_ret
      exact ⟨ret_bo (by rw [HR.out]), HE2.out.1⟩
  · have q1 : ((C : Int) == 0) = false := by simp [h1]
    have HR : Hid (P = false) := by show _ = _; rw [HP.out, if_neg h1]
    clear h1 HP
    go_wp2_with fail
    go_ret
    exact ⟨ret_bo (by rw [HR.out]), HE1.out.1⟩
set_option maxRecDepth 100000 in
set_option maxHeartbeats 3200000 in
theorem RSame_any (n : Nd) (k : F) (m : Nd) (q : F) (v u : Value) (w : World) (hv : Vo w (· < w.heap.size) n k v) (hu : Vo w (· < w.heap.size) m q u) :
    Calls Try.prog 18 #[v, u] w (Ret (.bool (sameP n k m q)) w) := by
  have hc1 : Hid (∀ (v : Value) (w : World), Vo w (· < w.heap.size) n k v → Calls Try.prog 12 #[v] w (Ret (.int .i64 (chk n k 1 : Int)) w)) := fun v w h => RCheck_any n k v w h
  have hc2 : Hid (∀ (v : Value) (w : World), Vo w (· < w.heap.size) m q v → Calls Try.prog 12 #[v] w (Ret (.int .i64 (chk m q 1 : Int)) w)) := fun v w h => RCheck_any m q v w h
  have hc3 : Hid (chk n k 1 = 0 → chk m q 1 = 0 → ∀ (v u : Value) (w : World), Vo w (· < w.heap.size) n k v → Vo w (· < w.heap.size) m q u → Calls Try.prog 13 #[v, u] w (Ret (.bool (eqV n k m q)) w)) := fun h1 h2 v u w h3 h4 => eq_any n k m q v u w h3 h4
  have HP : Hid (sameP n k m q = if chk n k 1 = 0 then if chk m q 1 = 0 then eqV n k m q else false else false) := rfl
  generalize sameP n k m q = P at *
  generalize eqV n k m q = V at *
  generalize chk n k 1 = C at *
  generalize chk m q 1 = D at *
  have HV := Lib.hid hv
  have HU := Lib.hid hu
  obtain ⟨An, cn, Ak, ck, rfl, _, _, _, _, _⟩ := hv
  obtain ⟨Bn, dn, Bk, dk, rfl, _, _, _, _, _⟩ := hu
  unfold ncells at *
  have EW := EqW.of_box w n An cn Ak k.len ck m Bn dn Bk q.len dk
  generalize hW : (w.alloc (.cells #[.int .i64 n.kind, .int .i64 n.int, .int .i64 n.scale, .string (str n.text), .slice An n.names.length cn, .slice Ak k.len ck] 25)).alloc (.cells #[.int .i64 m.kind, .int .i64 m.int, .int .i64 m.scale, .string (str m.text), .slice Bn m.names.length dn, .slice Bk q.len dk] 25) = W at *
  have HE := Lib.hid EW
  have hV1 := Lib.hid (HV.out.upto EW.1)
  have hU1 := Lib.hid (HU.out.upto EW.1)
  have hws : w.heap.size + 1 < W.heap.size := EW.2.2.2
  have hws0 : w.heap.size < W.heap.size := Nat.lt_of_succ_lt hws
  obtain ⟨⟨x0, x1, x2, x3, x4, x5⟩, ⟨y0, y1, y2, y3, y4, y5⟩⟩ := EW.cells
  clear EW HV HU
  go_enter Try.func18, Try.ntmps18
  go_wp2_with fail
  clear x0 x1 x2 x3 x4 x5 y0 y1 y2 y3 y4 y5 hW
  refine ((unhide hc1) _ _ hV1.out).mono ?_
  rintro e w1 ⟨rfl, b1⟩
  have E1 := HE.out.below b1
  have HE1 := Lib.hid E1
  have hV2 := Lib.hid (hV1.out.upto b1)
  have hU2 := Lib.hid (hU1.out.upto b1)
  obtain ⟨⟨x0, x1, x2, x3, x4, x5⟩, ⟨y0, y1, y2, y3, y4, y5⟩⟩ := E1.cells
  clear E1 hV1 hU1
  by_cases h1 : C = 0
  · have q1 : ((C : Int) == 0) = true := by simp [h1]
    have H1 := Lib.hid h1
    clear h1
    go_wp2_with fail
    clear x0 x1 x2 x3 x4 x5 y0 y1 y2 y3 y4 y5
    refine ((unhide hc2) _ _ hU2.out).mono ?_
    rintro e w2 ⟨rfl, b2⟩
    have E2 := HE1.out.below b2
    have HE2 := Lib.hid E2
    have hV3 := Lib.hid (hV2.out.upto b2)
    have hU3 := Lib.hid (hU2.out.upto b2)
    obtain ⟨⟨x0, x1, x2, x3, x4, x5⟩, ⟨y0, y1, y2, y3, y4, y5⟩⟩ := E2.cells
    clear E2 hV2 hU2
    by_cases h2 : D = 0
    · have q2 : ((D : Int) == 0) = true := by simp [h2]
      have HR : Hid (P = V) := by show _ = _; rw [HP.out, if_pos H1.out, if_pos h2]
      have H2 := Lib.hid h2
      clear h2 HP
      go_wp2_with fail
      refine (((unhide hc3) H1.out H2.out) _ _ _ hV3.out hU3.out).mono ?_
      rintro e w3 ⟨rfl, b3⟩
      have HE3 := HE2.out.below b3
      clear x0 x1 x2 x3 x4 x5 y0 y1 y2 y3 y4 y5
      go_wp2_with fail
      go_ret
      exact ⟨ret_bo (by rw [HR.out]), HE3.1⟩
    · have q2 : ((D : Int) == 0) = false := by simp [h2]
      have HR : Hid (P = false) := by show _ = _; rw [HP.out, if_pos H1.out, if_neg h2]
      clear h2 HP
      go_wp2_with fail
      go_ret
      exact ⟨ret_bo (by rw [HR.out]), HE2.out.1⟩
  · have q1 : ((C : Int) == 0) = false := by simp [h1]
    have HR : Hid (P = false) := by show _ = _; rw [HP.out, if_neg h1]
    clear h1 HP
    go_wp2_with fail
    go_ret
    exact ⟨ret_bo (by rw [HR.out]), HE1.out.1⟩
end Go.Proofs.Ytfcbcbpnlnkpcaa

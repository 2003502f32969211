/- value.compare, value.Compare of any two values. -/
import Derived.Test.YtfcbcbpnlnkpcaaQCompare
import Derived.Test.YtfcbcbpnlnkpcaaQCheck
namespace Go.Proofs.Ytfcbcbpnlnkpcaa
set_option linter.all false
open Go.RowKit
theorem cmp_any (n : Nd) (k : F) : CmpC n k := by
  refine F.node (C := CmpC) ?_ n k
  clear n k
  intro n k ih m q d v u w hn hm hv hu
  have IH : Hid (∀ i m j, k.get i = some (m, j) → CmpC m j) := ih
  by_cases hc : cls n.kind = cls m.kind
  · have G := good_of (chk_zero hn).2.1
    have g1 := G.lo
    have g2 := G.hi
    by_cases h3 : n.kind = 3
    · exact cmp_num3 n k IH m q d v u w hn hm hv hu hc h3
    by_cases h4 : n.kind = 4
    · exact cmp_num4 n k IH m q d v u w hn hm hv hu hc h4
    by_cases h6 : n.kind = 6
    · exact cmp_str6 n k IH m q d v u w hn hm hv hu hc h6
    by_cases h7 : n.kind = 7
    · exact cmp_str7 n k IH m q d v u w hn hm hv hu hc h7
    by_cases h8 : n.kind = 8
    · by_cases hl : q.len < k.len
      · exact cmp_l8a n k IH m q d v u w hn hm hv hu hc h8 hl
      · exact cmp_l8b n k IH m q d v u w hn hm hv hu hc h8 hl
    by_cases h9 : n.kind = 9
    · by_cases hl : q.len < k.len
      · exact cmp_l9a n k IH m q d v u w hn hm hv hu hc h9 hl
      · exact cmp_l9b n k IH m q d v u w hn hm hv hu hc h9 hl
    exact cmp_int n k IH m q d v u w hn hm hv hu hc (by omega)
  · exact cmp_dif n k IH m q d v u w hn hm hv hu hc
/-- The order of two, as value.Compare has it. -/
def cmpP (n : Nd) (k : F) (m : Nd) (q : F) : Int := if chk n k 1 = 0 then if chk m q 1 = 0 then cmpV n k m q else 0 else 0
/-- The two boxes of two arguments. -/
theorem EqW.of_box (w : World) (n : Nd) (An : Option Addr) (cn : Nat) (Ak : Option Addr) (kl ck : Nat) (m : Nd) (Bn : Option Addr) (dn : Nat) (Bk : Option Addr) (ql dk : Nat) :
    EqW w n An cn Ak kl ck m Bn dn Bk ql dk ((w.alloc (.cells #[.int .i64 n.kind, .int .i64 n.int, .int .i64 n.scale, .string (str n.text), .slice An n.names.length cn, .slice Ak kl ck] 25)).alloc
      (.cells #[.int .i64 m.kind, .int .i64 m.int, .int .i64 m.scale, .string (str m.text), .slice Bn m.names.length dn, .slice Bk ql dk] 25)) := by
  refine ⟨((Below.refl _ _).alloc (Nat.le_refl _) _).alloc (by simp) _, (Blk.new w _ _).alloc _, ?_, by simp⟩
  have := Blk.new (w.alloc (.cells #[.int .i64 n.kind, .int .i64 n.int, .int .i64 n.scale, .string (str n.text), .slice An n.names.length cn, .slice Ak kl ck] 25)) #[.int .i64 m.kind, .int .i64 m.int, .int .i64 m.scale, .string (str m.text), .slice Bn m.names.length dn, .slice Bk ql dk] 25
  simpa [ncells] using this
/-- Both boxes' cells, as a walk reads them. -/
theorem EqW.cells {w : World} {n : Nd} {An : Option Addr} {cn : Nat} {Ak : Option Addr} {kl ck : Nat} {m : Nd} {Bn : Option Addr} {dn : Nat} {Bk : Option Addr} {ql dk : Nat} {wr : World} (h : EqW w n An cn Ak kl ck m Bn dn Bk ql dk wr) :
    Six0 wr w.heap.size n An cn Ak kl ck ∧ Six0 wr (w.heap.size + 1) m Bn dn Bk ql dk := ⟨h.2.1.six, h.2.2.1.six⟩
set_option maxRecDepth 100000 in
set_option maxHeartbeats 3200000 in
theorem Compare_any (n : Nd) (k : F) (m : Nd) (q : F) (v u : Value) (w : World) (hv : Vo w (· < w.heap.size) n k v) (hu : Vo w (· < w.heap.size) m q u) :
    Calls Try.prog 15 #[v, u] w (Ret (.int .i64 (cmpP n k m q)) w) := by
  have hc1 : Hid (∀ (v : Value) (w : World), Vo w (· < w.heap.size) n k v → Calls Try.prog 11 #[v] w (Ret (.int .i64 (chk n k 1 : Int)) w)) := fun v w h => Check_any n k v w h
  have hc2 : Hid (∀ (v : Value) (w : World), Vo w (· < w.heap.size) m q v → Calls Try.prog 11 #[v] w (Ret (.int .i64 (chk m q 1 : Int)) w)) := fun v w h => Check_any m q v w h
  have hc3 : Hid (chk n k 1 = 0 → chk m q 1 = 0 → ∀ (v u : Value) (w : World), Vo w (· < w.heap.size) n k v → Vo w (· < w.heap.size) m q u → Calls Try.prog 29 #[v, u] w (Ret (.int .i64 (cmpV n k m q)) w)) := fun h1 h2 v u w h3 h4 => cmp_any n k m q 1 v u w h1 h2 h3 h4
  have HP : Hid (cmpP n k m q = if chk n k 1 = 0 then if chk m q 1 = 0 then cmpV n k m q else 0 else 0) := rfl
  generalize cmpP n k m q = P at *
  generalize cmpV n k m q = V at *
  generalize chk n k 1 = C at *
  generalize chk m q 1 = D at *
  have HV := Lib.hid hv
  have HU := Lib.hid hu
  obtain ⟨An, cn, Ak, ck, rfl, _, _, _, _, _⟩ := hv
  obtain ⟨Bn, dn, Bk, dk, rfl, _, _, _, _, _⟩ := hu
  unfold ncells at *
  have EW := EqW.of_box w n An cn Ak k.len ck m Bn dn Bk q.len dk
  generalize hW : (w.alloc (.cells #[.int .i64 n.kind, .int .i64 n.int, .int .i64 n.scale, .string (str n.text), .slice An n.names.length cn, .slice Ak k.len ck] 25)).alloc (.cells #[.int .i64 m.kind, .int .i64 m.int, .int .i64 m.scale, .string (str m.text), .slice Bn m.names.length dn, .slice Bk q.len dk] 25) = W at *
  have HE := Lib.hid EW
  have hV1 := Lib.hid (HV.out.upto EW.1)
  have hU1 := Lib.hid (HU.out.upto EW.1)
  have hws : w.heap.size + 1 < W.heap.size := EW.2.2.2
  have hws0 : w.heap.size < W.heap.size := Nat.lt_of_succ_lt hws
  obtain ⟨⟨x0, x1, x2, x3, x4, x5⟩, ⟨y0, y1, y2, y3, y4, y5⟩⟩ := EW.cells
  clear EW HV HU
  go_enter Try.func15, Try.ntmps15
  go_wp2_with fail
  clear x0 x1 x2 x3 x4 x5 y0 y1 y2 y3 y4 y5 hW
  refine ((unhide hc1) _ _ hV1.out).mono ?_
  rintro e w1 ⟨rfl, b1⟩
  have E1 := HE.out.below b1
  have HE1 := Lib.hid E1
  have hV2 := Lib.hid (hV1.out.upto b1)
  have hU2 := Lib.hid (hU1.out.upto b1)
  obtain ⟨⟨x0, x1, x2, x3, x4, x5⟩, ⟨y0, y1, y2, y3, y4, y5⟩⟩ := E1.cells
  clear E1 hV1 hU1
  by_cases h1 : C = 0
  · have q1 : ((C : Int) != 0) = false := by simp [h1]
    have H1 := Lib.hid h1
    clear h1
    go_wp2_with fail
    clear x0 x1 x2 x3 x4 x5 y0 y1 y2 y3 y4 y5
    refine ((unhide hc2) _ _ hU2.out).mono ?_
    rintro e w2 ⟨rfl, b2⟩
    have E2 := HE1.out.below b2
    have HE2 := Lib.hid E2
    have hV3 := Lib.hid (hV2.out.upto b2)
    have hU3 := Lib.hid (hU2.out.upto b2)
    obtain ⟨⟨x0, x1, x2, x3, x4, x5⟩, ⟨y0, y1, y2, y3, y4, y5⟩⟩ := E2.cells
    clear E2 hV2 hU2
    by_cases h2 : D = 0
    · have q2 : ((D : Int) != 0) = false := by simp [h2]
      have HR : Hid (P = V) := by show _ = _; rw [HP.out, if_pos H1.out, if_pos h2]
      have H2 := Lib.hid h2
      clear h2 HP
      go_wp2_with fail
      refine (((unhide hc3) H1.out H2.out) _ _ _ hV3.out hU3.out).mono ?_
      rintro e w3 ⟨rfl, b3⟩
      have HE3 := HE2.out.below b3
      clear x0 x1 x2 x3 x4 x5 y0 y1 y2 y3 y4 y5
      go_wp2_with fail
      go_ret
      exact ⟨ret_i (by rw [HR.out]), HE3.1⟩
    · have q2 : ((D : Int) != 0) = true := by simp [h2]
      have HR : Hid (P = 0) := by show _ = _; rw [HP.out, if_pos H1.out, if_neg h2]
      clear h2 HP
      go_wp2_with fail
      go_ret
      exact ⟨ret_i (by rw [HR.out]), HE2.out.1⟩
  · have q1 : ((C : Int) != 0) = true := by simp [h1]
    have HR : Hid (P = 0) := by show _ = _; rw [HP.out, if_neg h1]
    clear h1 HP
    go_wp2_with fail
    go_ret
    exact ⟨ret_i (by rw [HR.out]), HE1.out.1⟩
end Go.Proofs.Ytfcbcbpnlnkpcaa

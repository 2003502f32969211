/- decimal.are: are all values numbers? -/
import Derived.Test.YtfcbcbpnlnkpcaaDoorQBase
import Derived.Test.YtfcbcbpnlnkpcaaDoorQCheck
import Derived.LoopTactic
import Derived.Outline
import Derived.StillTailTactics
import Derived.BigQuiet
namespace Go.Proofs.YtfcbcbpnlnkpcaaDoor
set_option linter.all false
open Go.RowKit
theorem below_ra (w : World) (o : Obj) : Below w.heap.size w (w.alloc o) := (Below.refl _ _).alloc (Nat.le_refl _) o
def numB (n : Nd) (k : F) : Bool := (n.kind == 3 || n.kind == 4) && (chk n k 1 == 0)
def areF : F → Bool
  | .nil => true
  | .cons n k r => numB n k && areF r
theorem areF_drop {f : F} {i : Nat} {n : Nd} {k : F} (h : f.get i = some (n, k)) : areF (f.drop i) = (numB n k && areF (f.drop (i + 1))) := by rw [F.drop_get f i h]; rfl
set_option maxRecDepth 100000 in
set_option maxHeartbeats 3200000 in
theorem are_any (A : Option Addr) (f : F) (w : World) (hlen : f.len ≤ 8796093021952) (hk : Kids w (· < w.heap.size) A f) :
    Calls Tryd.prog 36 #[.slice A f.len f.len] w (Ret (.bool (areF f)) w) := by
  have HR : Hid (areF f = areF (f.drop 0)) := by show _ = _; cases f <;> rfl
  generalize hR : areF f = R at *
  clear hR
  go_enter Tryd.func36, Tryd.ntmps36
  go_wp2_with fail
  go_loopw [7] (fun s7 wr => ∃ (j : Nat), j ≤ f.len ∧ s7 = .int .i64 j ∧ Hid (R = areF (f.drop j)) ∧ Below w.heap.size w wr) (fun s7 _ => f.len - (intOf s7).toNat)
  case atStart => exact ⟨0, Nat.zero_le _, rfl, HR, Below.refl _ _⟩
  case round =>
    obtain ⟨j, hj, rfl, HJ, Bj⟩ := hrel
    have HB := Lib.hid Bj
    by_cases hlt : j < f.len
    · obtain ⟨m, q, hgt⟩ := F.get_lt f j hlt
      obtain ⟨b, off, Bn, dn, Bk, dk, rfl, hS, ⟨u0, u1, u2, u3, u4, u5⟩, hvk⟩ := (hk.upto Bj).at_ hgt hlt
      have HD : Hid (R = (numB m q && areF (f.drop (j + 1)))) := by show _ = _; rw [HJ.out, areF_drop hgt]
      have HV : Hid (Vo (wr.alloc (.cells (ncells m Bn dn Bk q.len dk).toArray 25)) (· < (wr.alloc (.cells (ncells m Bn dn Bk q.len dk).toArray 25)).heap.size) m q (.agg (ncells m Bn dn Bk q.len dk).toArray)) := hvk.upto (below_ra _ _)
      have BW : Hid (Below w.heap.size w (wr.alloc (.cells (ncells m Bn dn Bk q.len dk).toArray 25))) := Bj.trans ((below_ra _ _).mono Bj.size)
      have HC : Hid (∀ (v : Value) (w : World), Vo w (· < w.heap.size) m q v → Calls Tryd.prog 56 #[v] w (Ret (.int .i64 (chk m q 1 : Int)) w)) := fun v w h => Check_any m q v w h
      have SZ : Hid (w.heap.size ≤ wr.heap.size) := Bj.size
      have HG : Hid ((chk m q 1 : Int) = 0 ↔ chk m q 1 = 0) := by show _ ↔ _; omega
      have HN : Hid (numB m q = ((m.kind == 3 || m.kind == 4) && (chk m q 1 == 0))) := rfl
      generalize numB m q = nb at *
      generalize chk m q 1 = C at *
      clear hvk HJ hS Bj HB
      unfold ncells at *
      by_cases h34 : m.kind = 3 ∨ m.kind = 4
      · rcases Nat.eq_zero_or_pos C with c0 | c0
        · subst c0
          have HX : Hid (R = areF (f.drop (j + 1))) := by
            show _ = _
            rw [HD.out, HN.out]
            rcases h34 with h | h <;> simp [h]
          rcases h34 with h3 | h4
          · rw [h3] at u0
            go_wp2_with fail
            rw [← h3]
            refine ((unhide HC) _ _ HV.out).mono ?_
            rintro e w2 ⟨rfl, b2⟩
            have B2 := BW.out.trans (b2.mono (Nat.le_trans SZ.out (by simp)))
            go_wp2_with fail
            go_roundw
            case rel => exact ⟨j + 1, by omega, by go_num, HX, B2⟩
            case measure => simp [intOf]; omega
          · rw [h4] at u0
            go_wp2_with fail
            rw [← h4]
            refine ((unhide HC) _ _ HV.out).mono ?_
            rintro e w2 ⟨rfl, b2⟩
            have B2 := BW.out.trans (b2.mono (Nat.le_trans SZ.out (by simp)))
            go_wp2_with fail
            go_roundw
            case rel => exact ⟨j + 1, by omega, by go_num, HX, B2⟩
            case measure => simp [intOf]; omega
        · have HX : Hid (R = false) := by
            show _ = _
            rw [HD.out, HN.out, show (C == 0) = false from by simp; omega]
            simp
          have q1 : ((C : Int) != 0) = true := by simp; omega
          rcases h34 with h3 | h4
          · rw [h3] at u0
            go_wp2_with fail
            rw [← h3]
            refine ((unhide HC) _ _ HV.out).mono ?_
            rintro e w2 ⟨rfl, b2⟩
            have B2 := BW.out.trans (b2.mono (Nat.le_trans SZ.out (by simp)))
            go_wp2_with fail
            go_ret
            exact ⟨ret_bo HX.out.symm, B2⟩
          · rw [h4] at u0
            go_wp2_with fail
            rw [← h4]
            refine ((unhide HC) _ _ HV.out).mono ?_
            rintro e w2 ⟨rfl, b2⟩
            have B2 := BW.out.trans (b2.mono (Nat.le_trans SZ.out (by simp)))
            go_wp2_with fail
            go_ret
            exact ⟨ret_bo HX.out.symm, B2⟩
      · have h3 : ¬ m.kind = 3 := fun e => h34 (.inl e)
        have h4 : ¬ m.kind = 4 := fun e => h34 (.inr e)
        have HX : Hid (R = false) := by
          show _ = _
          rw [HD.out, HN.out]
          simp [h3, h4]
        clear h34
        go_wp2_with fail
        go_ret
        exact ⟨ret_bo HX.out.symm, BW.out⟩
    · have HD : Hid (R = true) := by show _ = _; rw [HJ.out, F.drop_len f j (by omega)]; rfl
      clear HJ
      go_wp2_with fail
      go_ret
      exact ⟨ret_bo HD.out.symm, Bj⟩
end Go.Proofs.YtfcbcbpnlnkpcaaDoor

/- Laws of numbers; the contracts of Sub and Mul in the answers' form. -/
import Derived.Test.YtfcbcbpnlnkpcaaDoorQAn
import Derived.Test.YtfcbcbpnlnkpcaaDoorQDecSub
import Derived.Test.YtfcbcbpnlnkpcaaDoorQDecMul
namespace Go.Proofs.YtfcbcbpnlnkpcaaDoor
set_option linter.all false
open Go.RowKit
theorem subR_any (n : Nd) (k : F) (m : Nd) (q : F) (v u : Value) (w : World) (hv : Vo w (· < w.heap.size) n k v) (hu : Vo w (· < w.heap.size) m q u) :
    Calls Tryd.prog 18 #[v, u] w (Ret (vans (subR n k m q)) w) := by
  have h := Sub_any n k m q v u w hv hu
  rw [vans_ls] at h
  exact h
theorem mulR_any (n : Nd) (k : F) (m : Nd) (q : F) (v u : Value) (w : World) (hv : Vo w (· < w.heap.size) n k v) (hu : Vo w (· < w.heap.size) m q u) :
    Calls Tryd.prog 16 #[v, u] w (Ret (vans (mulR n k m q)) w) := by
  have h := Mul_any n k m q v u w hv hu
  rw [vans_ls] at h
  exact h
theorem addR_comm (n : Nd) (k : F) (m : Nd) (q : F) : addR n k m q = addR m q n k := by unfold addR; rw [Bool.and_comm, Int.add_comm]
theorem mulR_comm (n : Nd) (k : F) (m : Nd) (q : F) : mulR n k m q = mulR m q n k := by unfold mulR; rw [Bool.and_comm, Int.mul_comm]
theorem lsR_ok {M : Int} {s : Nat} (h : (lsR M s).2 = 0) : leastP M s = some (lsR M s).1 := by
  unfold lsR at *
  cases hl : leastP M s with
  | none => rw [hl] at h; cases h
  | some n => rfl
theorem lsR_some {M : Int} {s : Nat} {n : Nd} (h : leastP M s = some n) : lsR M s = (n, 0) := by unfold lsR; rw [h]; rfl
theorem lsR_vN {n : Nd} (h : isNum n) : lsR (vN n) 18 = (n, 0) := lsR_some (leastP_vN h)
theorem addR_num {n m : Nd} (hn : isNum n) (hm : isNum m) : addR n .nil m .nil = lsR (vN n + vN m) 18 := by unfold addR; rw [num_numB hn, num_numB hm]; rfl
theorem subR_num {n m : Nd} (hn : isNum n) (hm : isNum m) : subR n .nil m .nil = lsR (vN n - vN m) 18 := by unfold subR; rw [num_numB hn, num_numB hm]; rfl
theorem mulR_num {n m : Nd} (hn : isNum n) (hm : isNum m) : mulR n .nil m .nil = lsR (vN n * vN m) 36 := by unfold mulR; rw [num_numB hn, num_numB hm]; rfl
theorem lsR_val {M : Int} (h : (lsR M 18).2 = 0) : isNum (lsR M 18).1 ∧ vN (lsR M 18).1 = M := by
  have ⟨h1, h2⟩ := leastP_val (lsR_ok h)
  exact ⟨h1, h2.symm⟩
theorem lsR_val36 {M : Int} (h : (lsR M 36).2 = 0) : isNum (lsR M 36).1 ∧ vN (lsR M 36).1 * 10 ^ 18 = M := by
  have ⟨h1, h2⟩ := leastP_val36 (lsR_ok h)
  exact ⟨h1, h2.symm⟩
theorem addR_back {n m : Nd} (hn : isNum n) (hm : isNum m) (h : (addR n .nil m .nil).2 = 0) : subR (addR n .nil m .nil).1 .nil m .nil = (n, 0) := by
  rw [addR_num hn hm] at *
  have ⟨h1, h2⟩ := lsR_val h
  rw [subR_num h1 hm, h2, show vN n + vN m - vN m = vN n from by omega, lsR_vN hn]
end Go.Proofs.YtfcbcbpnlnkpcaaDoor

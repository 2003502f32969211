/- scrivenerlaw6.plain. (Printed by gen/dtexts.py.) -/
import Derived.Test.YtfcbcbpnlnkpcaaDoorQLawp6
namespace Go.Proofs.YtfcbcbpnlnkpcaaDoor
set_option linter.all false
open Go.RowKit
def plB (n : Nd) (k : F) : Bool := (k.len == 0) && ((n.names.length == 0) && decide (n.text.length < 500))

set_option maxRecDepth 100000 in
set_option maxHeartbeats 12800000 in
theorem plain6_any (n : Nd) (k : F) (v : Value) (w : World) (hv : Vo w (· < w.heap.size) n k v) :
    Calls Tryd.prog 20 #[v] w (Ret (.bool (plB n k)) w) := by
  obtain ⟨An, cAn, Ak, cAk, rfl, hok0, _, _, _, _⟩ := id hv
  obtain ⟨W0, hW0⟩ : ∃ W0, (w.alloc (.cells #[.int .i64 n.kind, .int .i64 n.int, .int .i64 n.scale, .string (str n.text), .slice An n.names.length cAn, .slice Ak k.len cAk] 25)) = W0 := ⟨_, rfl⟩
  have ST0 : Hid (St w [⟨w.heap.size, n, k, An, cAn, Ak, cAk⟩] W0) := by
    have := (St.box_new (St.nil w) hv)
    show St _ _ _
    rw [← hW0]
    simpa [ncells, Nat.add_assoc] using this
  unfold ncells
  have HB : Hid (plB n k = ((k.len == 0) && ((n.names.length == 0) && decide (n.text.length < 500)))) := rfl
  generalize plB n k = P at *
  clear hv hok0
  go_enter Tryd.func20, Tryd.ntmps20
  go_upto_region 1 with fail
  clear hW0
  obtain ⟨x0_0, x0_1, x0_2, x0_3, x0_4, x0_5⟩ : _ := ST0.out.six 0 rfl
  have hsz : (str n.text).size = n.text.length := str_sz _
  by_cases h1 : k.len = 0
  · have q1 : ((k.len : Int) == 0) = true := by simp [h1]
    by_cases h2 : n.names.length = 0
    · have q2 : ((n.names.length : Int) == 0) = true := by simp [h2]
      by_cases h3 : n.text.length < 500
      · have q3 : ((n.text.length : Nat) : Int) < 500 := by omega
        have HX : Hid (P = true) := by show _ = _; rw [HB.out]; simp [h1, h2, h3]
        clear h1 h2 h3
        go_wp2_with fail
        go_ret
        exact ⟨ret_bo HX.out.symm, ST0.out.1⟩
      · have q3 : ¬ ((n.text.length : Nat) : Int) < 500 := by omega
        have HX : Hid (P = false) := by show _ = _; rw [HB.out]; simp [h1, h2]; omega
        clear h1 h2 h3
        go_wp2_with fail
        go_ret
        exact ⟨ret_bo (by first | exact HX.out.symm | (rw [HX.out]; simp; omega)), ST0.out.1⟩
    · have q2 : ((n.names.length : Int) == 0) = false := by simp [h2]
      have HX : Hid (P = false) := by show _ = _; rw [HB.out]; simp [h1, h2]
      clear h1 h2
      go_wp2_with fail
      go_ret
      exact ⟨ret_bo HX.out.symm, ST0.out.1⟩
  · have q1 : ((k.len : Int) == 0) = false := by simp [h1]
    have HX : Hid (P = false) := by show _ = _; rw [HB.out]; simp [h1]
    clear h1
    go_wp2_with fail
    go_ret
    exact ⟨ret_bo HX.out.symm, ST0.out.1⟩
end Go.Proofs.YtfcbcbpnlnkpcaaDoor

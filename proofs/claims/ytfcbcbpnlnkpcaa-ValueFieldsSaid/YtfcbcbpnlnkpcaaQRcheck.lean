/- scrivenerref5.check of any node, scrivenerref5.Check: 'chk'. -/
import Derived.Test.YtfcbcbpnlnkpcaaQRa
import Derived.Test.YtfcbcbpnlnkpcaaQRcheckD
import Derived.Test.YtfcbcbpnlnkpcaaQRcheckE
import Derived.Test.YtfcbcbpnlnkpcaaQRcheckF
namespace Go.Proofs.Ytfcbcbpnlnkpcaa
set_option linter.all false
open Go.RowKit
set_option maxRecDepth 100000 in
set_option maxHeartbeats 1600000 in
theorem rchk_deep (n : Nd) (k : F) (d : Nat) (v : Value) (w : World) (hd : d ≤ 17) (h16 : 16 < d) (hv : Vo w (· < w.heap.size) n k v) :
    Calls Try.prog 28 #[v, .int .i64 (d : Int)] w (Ret (.int .i64 (chk n k d : Int)) w) := by
  obtain ⟨An, cn, Ak, ck, rfl, hok, h1, h2, hn, hk⟩ := hv
  have hbx := boxw_eq w n An cn Ak k.len ck
  have hb0 := boxw_below w n An cn Ak k.len ck
  have hchk : Hid (chk n k d = 9) := if_pos h16
  generalize chk n k d = C at *
  clear hn h1 hok hk h2
  unfold ncells
  go_enter Try.func28, Try.ntmps28
  go_wp2_with fail
  go_ret
  exact ⟨ret_int (by rw [hchk.out]; rfl), hb0⟩
theorem rchk_any (n : Nd) (k : F) : RChkC n k := by
  refine F.node (C := RChkC) ?_ n k
  clear n k
  intro n k ih d v w hd hv
  have IH : Hid (∀ i m j, k.get i = some (m, j) → RChkC m j) := ih
  by_cases h16 : 16 < d
  · exact rchk_deep n k d v w hd h16 hv
  have hd' : d ≤ 16 := by omega
  by_cases h1 : n.kind = 1
  · exact rchk_k1 n k IH h1 d v w hd' hv
  by_cases h2 : n.kind = 2
  · exact rchk_k2 n k IH h2 d v w hd' hv
  by_cases h3 : n.kind = 3
  · exact rchk_k3 n k IH h3 d v w hd' hv
  by_cases h4 : n.kind = 4
  · exact rchk_k4 n k IH h4 d v w hd' hv
  by_cases h5 : n.kind = 5
  · exact rchk_k5 n k IH h5 d v w hd' hv
  by_cases h6 : n.kind = 6
  · exact rchk_k6 n k IH h6 d v w hd' hv
  by_cases h7 : n.kind = 7
  · exact rchk_k7 n k IH h7 d v w hd' hv
  by_cases h8 : n.kind = 8
  · exact rchk_k8 n k IH h8 d v w hd' hv
  by_cases h9 : n.kind = 9
  · exact rchk_k9 n k IH h9 d v w hd' hv
  exact rchk_k0 n k IH (fun c c1 c9 e => by omega) d v w hd' hv
set_option maxRecDepth 100000 in
set_option maxHeartbeats 1600000 in
theorem RCheck_any (n : Nd) (k : F) (v : Value) (w : World) (hv : Vo w (· < w.heap.size) n k v) :
    Calls Try.prog 12 #[v] w (Ret (.int .i64 (chk n k 1 : Int)) w) := by
  have hc : Hid (∀ (v : Value) (w : World), Vo w (· < w.heap.size) n k v → Calls Try.prog 28 #[v, .int .i64 ((1 : Nat) : Int)] w (Ret (.int .i64 (chk n k 1 : Int)) w)) := fun v w h => rchk_any n k 1 v w (by omega) h
  have hv0 := hv
  obtain ⟨An, cn, Ak, ck, rfl, _, _, _, _, _⟩ := hv
  have hb := boxw_eq w n An cn Ak k.len ck
  have hb0 := boxw_below w n An cn Ak k.len ck
  obtain ⟨x0, x1, x2, x3, x4, x5⟩ := boxw_six w n An cn Ak k.len ck
  have HV := Lib.hid (hv0.upto hb0)
  clear hv0
  generalize chk n k 1 = C at *
  unfold ncells at *
  go_enter Try.func12, Try.ntmps12
  go_wp2_with fail
  refine ((unhide hc) _ _ HV.out).mono ?_
  rintro e w1 ⟨rfl, b1⟩
  go_wp2_with fail
  go_ret
  exact ⟨rfl, bseq hb0 b1⟩
end Go.Proofs.Ytfcbcbpnlnkpcaa
